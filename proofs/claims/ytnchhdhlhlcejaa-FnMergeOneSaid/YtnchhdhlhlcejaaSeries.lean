/- l28Series. -/
import Derived.Test.YtnchhdhlhlcejaaSerC
namespace Go.Proofs.Ytnchhdhlhlcejaa
open Go.RowKit
set_option linter.unusedVariables false
set_option linter.unusedSimpArgs false

/-- What a test of two devices for a series answers. -/
def SerPost (n : Nl) (x y : Dv) (w : World) (e : Ending) (w' : World) : Prop := ∃ r1 : Int, e = .returned (.tuple #[.int .i64 r1, .bool (serB n x y)]) ∧ (serB n x y = true → r1 = serN x y) ∧ Below w.heap.size w w'
theorem preB_kind {x y : Dv} (h : x.kind ≠ y.kind) : preB x y = false := by simp [preB, h]
theorem preB_par {x y : Dv} (h : parB x y = true) : preB x y = false := by simp [preB, h]
theorem preB_sx {x y : Dv} (h : decide (curP x.pins = curQ x.pins) = true) : preB x y = false := by simp only [preB, h]; simp
theorem preB_sy {x y : Dv} (h : decide (curP y.pins = curQ y.pins) = true) : preB x y = false := by simp only [preB, h]; simp
theorem preB_of {x y : Dv} (h0 : x.kind = y.kind) (h : parB x y = false) (h1 : decide (curP x.pins = curQ x.pins) = false) (h2 : decide (curP y.pins = curQ y.pins) = false) : preB x y = (decide (x.kind = 2) || (decide (gateOf x.pins = gateOf y.pins) && decide (x.wd = y.wd))) := by
  simp only [preB, h0, h, h1, h2]; simp

set_option maxRecDepth 100000 in
set_option maxHeartbeats 8000000 in
theorem l28Series_two (n : Nl) (x y : Dv) (p q r s : Int) (v sx sy : Value) (w : World) (hv : NlV w v n) (hxp : x.pins = [p, q]) (hyp : y.pins = [r, s]) (h : IntSl w sx x.pins) (h' : IntSl w sy y.pins) (hs : Shp x) (ht : Shp y) (hk : y.kind = x.kind) (k2 : x.kind = 2)
    (hl : n.ds.length ≤ 24) (hp3 : ∀ d ∈ n.ds, d.pins.length ≤ 3) (hpl : n.ps.length ≤ 8) :
    Calls Try.prog 42 #[v, .agg #[.int .i64 x.kind, sx, .int .i64 x.wd, .int .i64 x.len], .agg #[.int .i64 y.kind, sy, .int .i64 y.wd, .int .i64 y.len]] w (SerPost n x y w) := by
  obtain ⟨b, off, cap, rfl, c0, c1, hbx⟩ := (hxp ▸ h : IntSl w sx [p, q]).two
  obtain ⟨b', off', cap', rfl, d0, d1, hby⟩ := (hyp ▸ h' : IntSl w sy [r, s]).two
  have HX := Lib.hid h
  have HY := Lib.hid h'
  have HN := Lib.hid hv
  have HPA := Lib.hid (fun w h h' => l28Parallel_any x y (.slice (some ⟨b, off, none⟩) 2 cap) (.slice (some ⟨b', off', none⟩) 2 cap') w h h' (by rw [hxp]; simp) (by rw [hyp]; simp))
  rw [parS_parB hs ht] at HPA
  have HSX := Lib.hid (fun w h => l28Shorted_any x (.slice (some ⟨b, off, none⟩) 2 cap) w h hs)
  have HSY := Lib.hid (fun w h => l28Shorted_any y (.slice (some ⟨b', off', none⟩) 2 cap') w h ht)
  have HCO := Lib.hid (fun w h h' => l28Common_any x y (.slice (some ⟨b, off, none⟩) 2 cap) (.slice (some ⟨b', off', none⟩) 2 cap') w h h' hs ht hk.symm)
  have HDG := Lib.hid (fun w h => l27Degree_any n v (serN x y) w h hl hp3)
  have HPO := Lib.hid (fun w h => l27Port_any n v (serN x y) w h (by omega))
  have H1 := Lib.hid (fun h => serB_pre (n := n) (preB_par (x := x) (y := y) h))
  have H2 := Lib.hid (fun h => serB_pre (n := n) (preB_sx (x := x) (y := y) h))
  have H3 := Lib.hid (fun h => serB_pre (n := n) (preB_sy (x := x) (y := y) h))
  have H4 := Lib.hid (preB_of (x := x) (y := y) hk.symm)
  have H5 := Lib.hid (@serB_pre n x y)
  have H6 := Lib.hid (@serB_one n x y)
  have H7 := Lib.hid (@serB_use n x y)
  have H8 := Lib.hid (show oneB x y = decide (comC (curP x.pins) (curQ x.pins) (curP y.pins) (curQ y.pins) = 1) from rfl)
  have H9 := Lib.hid (show useB n (serN x y) = (decide (degN n.ds (serN x y) = 2) && !portB n.ps (serN x y)) from rfl)
  obtain ⟨an, cn, an', cn', rfl⟩ := hv.sized
  have HPO2 := Lib.hid (show SerPost n x y w = fun e w' => ∃ r1 : Int, e = .returned (.tuple #[.int .i64 r1, .bool (serB n x y)]) ∧ (serB n x y = true → r1 = serN x y) ∧ Below w.heap.size w w' from rfl)
  generalize SerPost n x y w = PP at *
  generalize comC (curP x.pins) (curQ x.pins) (curP y.pins) (curQ y.pins) = cc at *
  generalize decide (curP x.pins = curQ x.pins) = shx at *
  generalize decide (curP y.pins = curQ y.pins) = shy at *
  have HG1 := Lib.hid (show gateOf x.pins = 0 by rw [hxp]; rfl)
  have HG2 := Lib.hid (show gateOf y.pins = 0 by rw [hyp]; rfl)
  have hsb : 0 ≤ (1 : Int) := by omega
  generalize parB x y = pb at *
  generalize serB n x y = sb at *
  generalize preB x y = pr at *
  generalize oneB x y = ob at *
  generalize useB n (serN x y) = ub at *
  generalize serN x y = sn at *
  generalize degN n.ds sn = dg at *
  generalize portB n.ps sn = po at *
  rw [hk] at HPA HSY HCO
  rw [hk]
  have HK := Lib.hid k2
  have k0 : Blk (((w.alloc (.cells #[.int .i64 n.nets, .slice an n.ds.length cn, .slice an' n.ps.length cn'] 30)).alloc (.cells #[.int .i64 x.kind, .slice (some ⟨b, off, none⟩) 2 cap, .int .i64 x.wd, .int .i64 x.len] 46)).alloc (.cells #[.int .i64 x.kind, .slice (some ⟨b', off', none⟩) 2 cap', .int .i64 y.wd, .int .i64 y.len] 46)) w.heap.size #[.int .i64 n.nets, .slice an n.ds.length cn, .slice an' n.ps.length cn'] 30 := (by ((repeat (first | (with_reducible assumption) | (with_reducible refine Blk.drewN ?_ _) | (with_reducible refine Blk.drew ?_) | ((with_reducible refine Blk.new _ ?_); focus (first | omega | (simp; done) | (simp; omega))) | (with_reducible refine Blk.past ?_ _) | ((with_reducible refine Blk.apart ?_ _ _ _ ?_); rotate_left; focus (first | omega | (simp; done) | (simp; omega))) | (with_reducible refine Blk.by (by assumption) ?_))); done))
  have k1 : Blk (((w.alloc (.cells #[.int .i64 n.nets, .slice an n.ds.length cn, .slice an' n.ps.length cn'] 30)).alloc (.cells #[.int .i64 x.kind, .slice (some ⟨b, off, none⟩) 2 cap, .int .i64 x.wd, .int .i64 x.len] 46)).alloc (.cells #[.int .i64 x.kind, .slice (some ⟨b', off', none⟩) 2 cap', .int .i64 y.wd, .int .i64 y.len] 46)) (w.heap.size + 1) #[.int .i64 x.kind, .slice (some ⟨b, off, none⟩) 2 cap, .int .i64 x.wd, .int .i64 x.len] 46 := (by ((repeat (first | (with_reducible assumption) | (with_reducible refine Blk.drewN ?_ _) | (with_reducible refine Blk.drew ?_) | ((with_reducible refine Blk.new _ ?_); focus (first | omega | (simp; done) | (simp; omega))) | (with_reducible refine Blk.past ?_ _) | ((with_reducible refine Blk.apart ?_ _ _ _ ?_); rotate_left; focus (first | omega | (simp; done) | (simp; omega))) | (with_reducible refine Blk.by (by assumption) ?_))); done))
  have k2_ : Blk (((w.alloc (.cells #[.int .i64 n.nets, .slice an n.ds.length cn, .slice an' n.ps.length cn'] 30)).alloc (.cells #[.int .i64 x.kind, .slice (some ⟨b, off, none⟩) 2 cap, .int .i64 x.wd, .int .i64 x.len] 46)).alloc (.cells #[.int .i64 x.kind, .slice (some ⟨b', off', none⟩) 2 cap', .int .i64 y.wd, .int .i64 y.len] 46)) (w.heap.size + 1 + 1) #[.int .i64 x.kind, .slice (some ⟨b', off', none⟩) 2 cap', .int .i64 y.wd, .int .i64 y.len] 46 := (by ((repeat (first | (with_reducible assumption) | (with_reducible refine Blk.drewN ?_ _) | (with_reducible refine Blk.drew ?_) | ((with_reducible refine Blk.new _ ?_); focus (first | omega | (simp; done) | (simp; omega))) | (with_reducible refine Blk.past ?_ _) | ((with_reducible refine Blk.apart ?_ _ _ _ ?_); rotate_left; focus (first | omega | (simp; done) | (simp; omega))) | (with_reducible refine Blk.by (by assumption) ?_))); done))
  have hW : Below w.heap.size w (((w.alloc (.cells #[.int .i64 n.nets, .slice an n.ds.length cn, .slice an' n.ps.length cn'] 30)).alloc (.cells #[.int .i64 x.kind, .slice (some ⟨b, off, none⟩) 2 cap, .int .i64 x.wd, .int .i64 x.len] 46)).alloc (.cells #[.int .i64 x.kind, .slice (some ⟨b', off', none⟩) 2 cap', .int .i64 y.wd, .int .i64 y.len] 46)) := (by ((repeat (first | (with_reducible exact Below.refl _ _) | (with_reducible refine below_drewN ?_ _) | (with_reducible refine Below.drew ?_) | (with_reducible refine below_al ?_ _) | (with_reducible refine below_on (by assumption) ?_) | ((with_reducible refine Below.setCell ?_ ?_ _); rotate_left; focus (first | omega | (simp; done) | (simp; omega))) | (with_reducible assumption))); done))
  have e0 := k0.cell
  have e1 := k1.cell
  have e2 := k2_.cell
  have hkb : (x.kind != 2) = false := by simpa using k2
  clear hv h h' hxp hyp hs ht hk hl hp3 hpl hsb k2
  cases pb with
  | true =>
    have hsb := H1.out rfl
    subst hsb
    go_enter Try.func42, Try.ntmps42
    go_wp2_with (first | (go_at_call 41; refine (HPA.out _ (HX.out.by hW) (HY.out.by hW)).mono ?_; rintro e w1 ⟨rfl, hb⟩; replace k0 := Blk.by hb k0; replace k1 := Blk.by hb k1; replace k2_ := Blk.by hb k2_; replace hW := below_on hb hW; clear hb e0 e1 e2; have e0 := k0.cell; have e1 := k1.cell; have e2 := k2_.cell) | (go_at_call_of 86 (Value.slice (some ⟨b, off, none⟩) 2 cap); refine (HSX.out _ (HX.out.by hW)).mono ?_; rintro e w2 ⟨rfl, hb⟩; replace k0 := Blk.by hb k0; replace k1 := Blk.by hb k1; replace k2_ := Blk.by hb k2_; replace hW := below_on hb hW; clear hb e0 e1 e2; have e0 := k0.cell; have e1 := k1.cell; have e2 := k2_.cell) | (go_at_call 86; refine (HSY.out _ (HY.out.by hW)).mono ?_; rintro e w3 ⟨rfl, hb⟩; replace k0 := Blk.by hb k0; replace k1 := Blk.by hb k1; replace k2_ := Blk.by hb k2_; replace hW := below_on hb hW; clear hb e0 e1 e2; have e0 := k0.cell; have e1 := k1.cell; have e2 := k2_.cell) | (go_at_call 87; refine (HCO.out _ (HX.out.by hW) (HY.out.by hW)).mono ?_; rintro e w4 ⟨rfl, hb⟩; replace k0 := Blk.by hb k0; replace k1 := Blk.by hb k1; replace k2_ := Blk.by hb k2_; replace hW := below_on hb hW; clear hb e0 e1 e2; have e0 := k0.cell; have e1 := k1.cell; have e2 := k2_.cell) | (go_at_call 88; refine (HDG.out _ (HN.out.by hW)).mono ?_; rintro e w5 ⟨rfl, hb⟩; replace k0 := Blk.by hb k0; replace k1 := Blk.by hb k1; replace k2_ := Blk.by hb k2_; replace hW := below_on hb hW; clear hb e0 e1 e2; have e0 := k0.cell; have e1 := k1.cell; have e2 := k2_.cell) | (go_at_call 89; refine (HPO.out _ (HN.out.by hW)).mono ?_; rintro e w6 ⟨rfl, hb⟩; replace k0 := Blk.by hb k0; replace k1 := Blk.by hb k1; replace k2_ := Blk.by hb k2_; replace hW := below_on hb hW; clear hb e0 e1 e2; have e0 := k0.cell; have e1 := k1.cell; have e2 := k2_.cell))
    rw [HPO2.out]
    exact ⟨0, rfl, (fun h => by cases h), hW⟩
  | false =>
  cases shx with
  | true =>
    have hsb := H2.out rfl
    subst hsb
    go_enter Try.func42, Try.ntmps42
    go_wp2_with (first | (go_at_call 41; refine (HPA.out _ (HX.out.by hW) (HY.out.by hW)).mono ?_; rintro e w1 ⟨rfl, hb⟩; replace k0 := Blk.by hb k0; replace k1 := Blk.by hb k1; replace k2_ := Blk.by hb k2_; replace hW := below_on hb hW; clear hb e0 e1 e2; have e0 := k0.cell; have e1 := k1.cell; have e2 := k2_.cell) | (go_at_call_of 86 (Value.slice (some ⟨b, off, none⟩) 2 cap); refine (HSX.out _ (HX.out.by hW)).mono ?_; rintro e w2 ⟨rfl, hb⟩; replace k0 := Blk.by hb k0; replace k1 := Blk.by hb k1; replace k2_ := Blk.by hb k2_; replace hW := below_on hb hW; clear hb e0 e1 e2; have e0 := k0.cell; have e1 := k1.cell; have e2 := k2_.cell) | (go_at_call 86; refine (HSY.out _ (HY.out.by hW)).mono ?_; rintro e w3 ⟨rfl, hb⟩; replace k0 := Blk.by hb k0; replace k1 := Blk.by hb k1; replace k2_ := Blk.by hb k2_; replace hW := below_on hb hW; clear hb e0 e1 e2; have e0 := k0.cell; have e1 := k1.cell; have e2 := k2_.cell) | (go_at_call 87; refine (HCO.out _ (HX.out.by hW) (HY.out.by hW)).mono ?_; rintro e w4 ⟨rfl, hb⟩; replace k0 := Blk.by hb k0; replace k1 := Blk.by hb k1; replace k2_ := Blk.by hb k2_; replace hW := below_on hb hW; clear hb e0 e1 e2; have e0 := k0.cell; have e1 := k1.cell; have e2 := k2_.cell) | (go_at_call 88; refine (HDG.out _ (HN.out.by hW)).mono ?_; rintro e w5 ⟨rfl, hb⟩; replace k0 := Blk.by hb k0; replace k1 := Blk.by hb k1; replace k2_ := Blk.by hb k2_; replace hW := below_on hb hW; clear hb e0 e1 e2; have e0 := k0.cell; have e1 := k1.cell; have e2 := k2_.cell) | (go_at_call 89; refine (HPO.out _ (HN.out.by hW)).mono ?_; rintro e w6 ⟨rfl, hb⟩; replace k0 := Blk.by hb k0; replace k1 := Blk.by hb k1; replace k2_ := Blk.by hb k2_; replace hW := below_on hb hW; clear hb e0 e1 e2; have e0 := k0.cell; have e1 := k1.cell; have e2 := k2_.cell))
    rw [HPO2.out]
    exact ⟨0, rfl, (fun h => by cases h), hW⟩
  | false =>
  cases shy with
  | true =>
    have hsb := H3.out rfl
    subst hsb
    go_enter Try.func42, Try.ntmps42
    go_wp2_with (first | (go_at_call 41; refine (HPA.out _ (HX.out.by hW) (HY.out.by hW)).mono ?_; rintro e w1 ⟨rfl, hb⟩; replace k0 := Blk.by hb k0; replace k1 := Blk.by hb k1; replace k2_ := Blk.by hb k2_; replace hW := below_on hb hW; clear hb e0 e1 e2; have e0 := k0.cell; have e1 := k1.cell; have e2 := k2_.cell) | (go_at_call_of 86 (Value.slice (some ⟨b, off, none⟩) 2 cap); refine (HSX.out _ (HX.out.by hW)).mono ?_; rintro e w2 ⟨rfl, hb⟩; replace k0 := Blk.by hb k0; replace k1 := Blk.by hb k1; replace k2_ := Blk.by hb k2_; replace hW := below_on hb hW; clear hb e0 e1 e2; have e0 := k0.cell; have e1 := k1.cell; have e2 := k2_.cell) | (go_at_call 86; refine (HSY.out _ (HY.out.by hW)).mono ?_; rintro e w3 ⟨rfl, hb⟩; replace k0 := Blk.by hb k0; replace k1 := Blk.by hb k1; replace k2_ := Blk.by hb k2_; replace hW := below_on hb hW; clear hb e0 e1 e2; have e0 := k0.cell; have e1 := k1.cell; have e2 := k2_.cell) | (go_at_call 87; refine (HCO.out _ (HX.out.by hW) (HY.out.by hW)).mono ?_; rintro e w4 ⟨rfl, hb⟩; replace k0 := Blk.by hb k0; replace k1 := Blk.by hb k1; replace k2_ := Blk.by hb k2_; replace hW := below_on hb hW; clear hb e0 e1 e2; have e0 := k0.cell; have e1 := k1.cell; have e2 := k2_.cell) | (go_at_call 88; refine (HDG.out _ (HN.out.by hW)).mono ?_; rintro e w5 ⟨rfl, hb⟩; replace k0 := Blk.by hb k0; replace k1 := Blk.by hb k1; replace k2_ := Blk.by hb k2_; replace hW := below_on hb hW; clear hb e0 e1 e2; have e0 := k0.cell; have e1 := k1.cell; have e2 := k2_.cell) | (go_at_call 89; refine (HPO.out _ (HN.out.by hW)).mono ?_; rintro e w6 ⟨rfl, hb⟩; replace k0 := Blk.by hb k0; replace k1 := Blk.by hb k1; replace k2_ := Blk.by hb k2_; replace hW := below_on hb hW; clear hb e0 e1 e2; have e0 := k0.cell; have e1 := k1.cell; have e2 := k2_.cell))
    rw [HPO2.out]
    exact ⟨0, rfl, (fun h => by cases h), hW⟩
  | false =>
  have hpr := Lib.hid (H4.out rfl rfl rfl)
  have PRT := Lib.hid (show pr = true by rw [hpr.out]; simp [HK.out])
  by_cases hc : cc = 1
  · have hob : ob = true := by rw [H8.out]; simp [hc]
    have hsb := H7.out PRT.out hob
    rw [H9.out] at hsb
    have hc' : (cc == 1) = true := by simpa using hc
    by_cases hd : dg = 2
    · have hd' : ((dg : Int) == 2) = true := by simp [hd]
      have HSB := Lib.hid (show sb = !po by rw [hsb]; simp [hd])
      clear hsb hob hc hd
      go_enter Try.func42, Try.ntmps42
      go_wp2_with (first | (go_at_call 41; refine (HPA.out _ (HX.out.by hW) (HY.out.by hW)).mono ?_; rintro e w1 ⟨rfl, hb⟩; replace k0 := Blk.by hb k0; replace k1 := Blk.by hb k1; replace k2_ := Blk.by hb k2_; replace hW := below_on hb hW; clear hb e0 e1 e2; have e0 := k0.cell; have e1 := k1.cell; have e2 := k2_.cell) | (go_at_call_of 86 (Value.slice (some ⟨b, off, none⟩) 2 cap); refine (HSX.out _ (HX.out.by hW)).mono ?_; rintro e w2 ⟨rfl, hb⟩; replace k0 := Blk.by hb k0; replace k1 := Blk.by hb k1; replace k2_ := Blk.by hb k2_; replace hW := below_on hb hW; clear hb e0 e1 e2; have e0 := k0.cell; have e1 := k1.cell; have e2 := k2_.cell) | (go_at_call 86; refine (HSY.out _ (HY.out.by hW)).mono ?_; rintro e w3 ⟨rfl, hb⟩; replace k0 := Blk.by hb k0; replace k1 := Blk.by hb k1; replace k2_ := Blk.by hb k2_; replace hW := below_on hb hW; clear hb e0 e1 e2; have e0 := k0.cell; have e1 := k1.cell; have e2 := k2_.cell) | (go_at_call 87; refine (HCO.out _ (HX.out.by hW) (HY.out.by hW)).mono ?_; rintro e w4 ⟨rfl, hb⟩; replace k0 := Blk.by hb k0; replace k1 := Blk.by hb k1; replace k2_ := Blk.by hb k2_; replace hW := below_on hb hW; clear hb e0 e1 e2; have e0 := k0.cell; have e1 := k1.cell; have e2 := k2_.cell) | (go_at_call 88; refine (HDG.out _ (HN.out.by hW)).mono ?_; rintro e w5 ⟨rfl, hb⟩; replace k0 := Blk.by hb k0; replace k1 := Blk.by hb k1; replace k2_ := Blk.by hb k2_; replace hW := below_on hb hW; clear hb e0 e1 e2; have e0 := k0.cell; have e1 := k1.cell; have e2 := k2_.cell) | (go_at_call 89; refine (HPO.out _ (HN.out.by hW)).mono ?_; rintro e w6 ⟨rfl, hb⟩; replace k0 := Blk.by hb k0; replace k1 := Blk.by hb k1; replace k2_ := Blk.by hb k2_; replace hW := below_on hb hW; clear hb e0 e1 e2; have e0 := k0.cell; have e1 := k1.cell; have e2 := k2_.cell))
      clear e0 e1 e2; have e0 := k0.cell; have e1 := k1.cell; have e2 := k2_.cell
      have u0 := cell_by' hW c0
      have v0 := cell_by' hW d0
      have u1 := cell_by' hW c1
      have v1 := cell_by' hW d1
      go_quiet (fail)
      replace k0 := k0.drewN nq; replace k1 := k1.drewN nq; replace k2_ := k2_.drewN nq; replace hW := below_drewN hW nq; clear e0 e1 e2; have e0 := k0.cell; have e1 := k1.cell; have e2 := k2_.cell
      go_wp2_with (first | (go_at_call 41; refine (HPA.out _ (HX.out.by hW) (HY.out.by hW)).mono ?_; rintro e w1 ⟨rfl, hb⟩; replace k0 := Blk.by hb k0; replace k1 := Blk.by hb k1; replace k2_ := Blk.by hb k2_; replace hW := below_on hb hW; clear hb e0 e1 e2; have e0 := k0.cell; have e1 := k1.cell; have e2 := k2_.cell) | (go_at_call_of 86 (Value.slice (some ⟨b, off, none⟩) 2 cap); refine (HSX.out _ (HX.out.by hW)).mono ?_; rintro e w2 ⟨rfl, hb⟩; replace k0 := Blk.by hb k0; replace k1 := Blk.by hb k1; replace k2_ := Blk.by hb k2_; replace hW := below_on hb hW; clear hb e0 e1 e2; have e0 := k0.cell; have e1 := k1.cell; have e2 := k2_.cell) | (go_at_call 86; refine (HSY.out _ (HY.out.by hW)).mono ?_; rintro e w3 ⟨rfl, hb⟩; replace k0 := Blk.by hb k0; replace k1 := Blk.by hb k1; replace k2_ := Blk.by hb k2_; replace hW := below_on hb hW; clear hb e0 e1 e2; have e0 := k0.cell; have e1 := k1.cell; have e2 := k2_.cell) | (go_at_call 87; refine (HCO.out _ (HX.out.by hW) (HY.out.by hW)).mono ?_; rintro e w4 ⟨rfl, hb⟩; replace k0 := Blk.by hb k0; replace k1 := Blk.by hb k1; replace k2_ := Blk.by hb k2_; replace hW := below_on hb hW; clear hb e0 e1 e2; have e0 := k0.cell; have e1 := k1.cell; have e2 := k2_.cell) | (go_at_call 88; refine (HDG.out _ (HN.out.by hW)).mono ?_; rintro e w5 ⟨rfl, hb⟩; replace k0 := Blk.by hb k0; replace k1 := Blk.by hb k1; replace k2_ := Blk.by hb k2_; replace hW := below_on hb hW; clear hb e0 e1 e2; have e0 := k0.cell; have e1 := k1.cell; have e2 := k2_.cell) | (go_at_call 89; refine (HPO.out _ (HN.out.by hW)).mono ?_; rintro e w6 ⟨rfl, hb⟩; replace k0 := Blk.by hb k0; replace k1 := Blk.by hb k1; replace k2_ := Blk.by hb k2_; replace hW := below_on hb hW; clear hb e0 e1 e2; have e0 := k0.cell; have e1 := k1.cell; have e2 := k2_.cell))
      rw [HPO2.out]
      exact ⟨sn, by rw [HSB.out]; rfl, fun _ => rfl, hW⟩
    · have hd' : ((dg : Int) == 2) = false := by rw [beq_eq_false_iff_ne]; omega
      have HSB := Lib.hid (show sb = false by rw [hsb]; simp [hd])
      clear hsb hob hc hd
      go_enter Try.func42, Try.ntmps42
      go_wp2_with (first | (go_at_call 41; refine (HPA.out _ (HX.out.by hW) (HY.out.by hW)).mono ?_; rintro e w1 ⟨rfl, hb⟩; replace k0 := Blk.by hb k0; replace k1 := Blk.by hb k1; replace k2_ := Blk.by hb k2_; replace hW := below_on hb hW; clear hb e0 e1 e2; have e0 := k0.cell; have e1 := k1.cell; have e2 := k2_.cell) | (go_at_call_of 86 (Value.slice (some ⟨b, off, none⟩) 2 cap); refine (HSX.out _ (HX.out.by hW)).mono ?_; rintro e w2 ⟨rfl, hb⟩; replace k0 := Blk.by hb k0; replace k1 := Blk.by hb k1; replace k2_ := Blk.by hb k2_; replace hW := below_on hb hW; clear hb e0 e1 e2; have e0 := k0.cell; have e1 := k1.cell; have e2 := k2_.cell) | (go_at_call 86; refine (HSY.out _ (HY.out.by hW)).mono ?_; rintro e w3 ⟨rfl, hb⟩; replace k0 := Blk.by hb k0; replace k1 := Blk.by hb k1; replace k2_ := Blk.by hb k2_; replace hW := below_on hb hW; clear hb e0 e1 e2; have e0 := k0.cell; have e1 := k1.cell; have e2 := k2_.cell) | (go_at_call 87; refine (HCO.out _ (HX.out.by hW) (HY.out.by hW)).mono ?_; rintro e w4 ⟨rfl, hb⟩; replace k0 := Blk.by hb k0; replace k1 := Blk.by hb k1; replace k2_ := Blk.by hb k2_; replace hW := below_on hb hW; clear hb e0 e1 e2; have e0 := k0.cell; have e1 := k1.cell; have e2 := k2_.cell) | (go_at_call 88; refine (HDG.out _ (HN.out.by hW)).mono ?_; rintro e w5 ⟨rfl, hb⟩; replace k0 := Blk.by hb k0; replace k1 := Blk.by hb k1; replace k2_ := Blk.by hb k2_; replace hW := below_on hb hW; clear hb e0 e1 e2; have e0 := k0.cell; have e1 := k1.cell; have e2 := k2_.cell) | (go_at_call 89; refine (HPO.out _ (HN.out.by hW)).mono ?_; rintro e w6 ⟨rfl, hb⟩; replace k0 := Blk.by hb k0; replace k1 := Blk.by hb k1; replace k2_ := Blk.by hb k2_; replace hW := below_on hb hW; clear hb e0 e1 e2; have e0 := k0.cell; have e1 := k1.cell; have e2 := k2_.cell))
      clear e0 e1 e2; have e0 := k0.cell; have e1 := k1.cell; have e2 := k2_.cell
      have u0 := cell_by' hW c0
      have v0 := cell_by' hW d0
      have u1 := cell_by' hW c1
      have v1 := cell_by' hW d1
      go_quiet (fail)
      replace k0 := k0.drewN nq; replace k1 := k1.drewN nq; replace k2_ := k2_.drewN nq; replace hW := below_drewN hW nq; clear e0 e1 e2; have e0 := k0.cell; have e1 := k1.cell; have e2 := k2_.cell
      go_wp2_with (first | (go_at_call 41; refine (HPA.out _ (HX.out.by hW) (HY.out.by hW)).mono ?_; rintro e w1 ⟨rfl, hb⟩; replace k0 := Blk.by hb k0; replace k1 := Blk.by hb k1; replace k2_ := Blk.by hb k2_; replace hW := below_on hb hW; clear hb e0 e1 e2; have e0 := k0.cell; have e1 := k1.cell; have e2 := k2_.cell) | (go_at_call_of 86 (Value.slice (some ⟨b, off, none⟩) 2 cap); refine (HSX.out _ (HX.out.by hW)).mono ?_; rintro e w2 ⟨rfl, hb⟩; replace k0 := Blk.by hb k0; replace k1 := Blk.by hb k1; replace k2_ := Blk.by hb k2_; replace hW := below_on hb hW; clear hb e0 e1 e2; have e0 := k0.cell; have e1 := k1.cell; have e2 := k2_.cell) | (go_at_call 86; refine (HSY.out _ (HY.out.by hW)).mono ?_; rintro e w3 ⟨rfl, hb⟩; replace k0 := Blk.by hb k0; replace k1 := Blk.by hb k1; replace k2_ := Blk.by hb k2_; replace hW := below_on hb hW; clear hb e0 e1 e2; have e0 := k0.cell; have e1 := k1.cell; have e2 := k2_.cell) | (go_at_call 87; refine (HCO.out _ (HX.out.by hW) (HY.out.by hW)).mono ?_; rintro e w4 ⟨rfl, hb⟩; replace k0 := Blk.by hb k0; replace k1 := Blk.by hb k1; replace k2_ := Blk.by hb k2_; replace hW := below_on hb hW; clear hb e0 e1 e2; have e0 := k0.cell; have e1 := k1.cell; have e2 := k2_.cell) | (go_at_call 88; refine (HDG.out _ (HN.out.by hW)).mono ?_; rintro e w5 ⟨rfl, hb⟩; replace k0 := Blk.by hb k0; replace k1 := Blk.by hb k1; replace k2_ := Blk.by hb k2_; replace hW := below_on hb hW; clear hb e0 e1 e2; have e0 := k0.cell; have e1 := k1.cell; have e2 := k2_.cell) | (go_at_call 89; refine (HPO.out _ (HN.out.by hW)).mono ?_; rintro e w6 ⟨rfl, hb⟩; replace k0 := Blk.by hb k0; replace k1 := Blk.by hb k1; replace k2_ := Blk.by hb k2_; replace hW := below_on hb hW; clear hb e0 e1 e2; have e0 := k0.cell; have e1 := k1.cell; have e2 := k2_.cell))
      rw [HPO2.out]
      exact ⟨sn, by rw [HSB.out]; rfl, fun _ => rfl, hW⟩
  · have hob : ob = false := by rw [H8.out]; simp [hc]
    have HSB := Lib.hid (H6.out hob)
    have hc' : (cc == 1) = false := by simpa using hc
    clear hob hc
    go_enter Try.func42, Try.ntmps42
    go_wp2_with (first | (go_at_call 41; refine (HPA.out _ (HX.out.by hW) (HY.out.by hW)).mono ?_; rintro e w1 ⟨rfl, hb⟩; replace k0 := Blk.by hb k0; replace k1 := Blk.by hb k1; replace k2_ := Blk.by hb k2_; replace hW := below_on hb hW; clear hb e0 e1 e2; have e0 := k0.cell; have e1 := k1.cell; have e2 := k2_.cell) | (go_at_call_of 86 (Value.slice (some ⟨b, off, none⟩) 2 cap); refine (HSX.out _ (HX.out.by hW)).mono ?_; rintro e w2 ⟨rfl, hb⟩; replace k0 := Blk.by hb k0; replace k1 := Blk.by hb k1; replace k2_ := Blk.by hb k2_; replace hW := below_on hb hW; clear hb e0 e1 e2; have e0 := k0.cell; have e1 := k1.cell; have e2 := k2_.cell) | (go_at_call 86; refine (HSY.out _ (HY.out.by hW)).mono ?_; rintro e w3 ⟨rfl, hb⟩; replace k0 := Blk.by hb k0; replace k1 := Blk.by hb k1; replace k2_ := Blk.by hb k2_; replace hW := below_on hb hW; clear hb e0 e1 e2; have e0 := k0.cell; have e1 := k1.cell; have e2 := k2_.cell) | (go_at_call 87; refine (HCO.out _ (HX.out.by hW) (HY.out.by hW)).mono ?_; rintro e w4 ⟨rfl, hb⟩; replace k0 := Blk.by hb k0; replace k1 := Blk.by hb k1; replace k2_ := Blk.by hb k2_; replace hW := below_on hb hW; clear hb e0 e1 e2; have e0 := k0.cell; have e1 := k1.cell; have e2 := k2_.cell) | (go_at_call 88; refine (HDG.out _ (HN.out.by hW)).mono ?_; rintro e w5 ⟨rfl, hb⟩; replace k0 := Blk.by hb k0; replace k1 := Blk.by hb k1; replace k2_ := Blk.by hb k2_; replace hW := below_on hb hW; clear hb e0 e1 e2; have e0 := k0.cell; have e1 := k1.cell; have e2 := k2_.cell) | (go_at_call 89; refine (HPO.out _ (HN.out.by hW)).mono ?_; rintro e w6 ⟨rfl, hb⟩; replace k0 := Blk.by hb k0; replace k1 := Blk.by hb k1; replace k2_ := Blk.by hb k2_; replace hW := below_on hb hW; clear hb e0 e1 e2; have e0 := k0.cell; have e1 := k1.cell; have e2 := k2_.cell))
    clear e0 e1 e2; have e0 := k0.cell; have e1 := k1.cell; have e2 := k2_.cell
    have u0 := cell_by' hW c0
    have v0 := cell_by' hW d0
    have u1 := cell_by' hW c1
    have v1 := cell_by' hW d1
    go_quiet (fail)
    replace k0 := k0.drewN nq; replace k1 := k1.drewN nq; replace k2_ := k2_.drewN nq; replace hW := below_drewN hW nq; clear e0 e1 e2; have e0 := k0.cell; have e1 := k1.cell; have e2 := k2_.cell
    go_wp2_with (first | (go_at_call 41; refine (HPA.out _ (HX.out.by hW) (HY.out.by hW)).mono ?_; rintro e w1 ⟨rfl, hb⟩; replace k0 := Blk.by hb k0; replace k1 := Blk.by hb k1; replace k2_ := Blk.by hb k2_; replace hW := below_on hb hW; clear hb e0 e1 e2; have e0 := k0.cell; have e1 := k1.cell; have e2 := k2_.cell) | (go_at_call_of 86 (Value.slice (some ⟨b, off, none⟩) 2 cap); refine (HSX.out _ (HX.out.by hW)).mono ?_; rintro e w2 ⟨rfl, hb⟩; replace k0 := Blk.by hb k0; replace k1 := Blk.by hb k1; replace k2_ := Blk.by hb k2_; replace hW := below_on hb hW; clear hb e0 e1 e2; have e0 := k0.cell; have e1 := k1.cell; have e2 := k2_.cell) | (go_at_call 86; refine (HSY.out _ (HY.out.by hW)).mono ?_; rintro e w3 ⟨rfl, hb⟩; replace k0 := Blk.by hb k0; replace k1 := Blk.by hb k1; replace k2_ := Blk.by hb k2_; replace hW := below_on hb hW; clear hb e0 e1 e2; have e0 := k0.cell; have e1 := k1.cell; have e2 := k2_.cell) | (go_at_call 87; refine (HCO.out _ (HX.out.by hW) (HY.out.by hW)).mono ?_; rintro e w4 ⟨rfl, hb⟩; replace k0 := Blk.by hb k0; replace k1 := Blk.by hb k1; replace k2_ := Blk.by hb k2_; replace hW := below_on hb hW; clear hb e0 e1 e2; have e0 := k0.cell; have e1 := k1.cell; have e2 := k2_.cell) | (go_at_call 88; refine (HDG.out _ (HN.out.by hW)).mono ?_; rintro e w5 ⟨rfl, hb⟩; replace k0 := Blk.by hb k0; replace k1 := Blk.by hb k1; replace k2_ := Blk.by hb k2_; replace hW := below_on hb hW; clear hb e0 e1 e2; have e0 := k0.cell; have e1 := k1.cell; have e2 := k2_.cell) | (go_at_call 89; refine (HPO.out _ (HN.out.by hW)).mono ?_; rintro e w6 ⟨rfl, hb⟩; replace k0 := Blk.by hb k0; replace k1 := Blk.by hb k1; replace k2_ := Blk.by hb k2_; replace hW := below_on hb hW; clear hb e0 e1 e2; have e0 := k0.cell; have e1 := k1.cell; have e2 := k2_.cell))
    rw [HPO2.out]
    exact ⟨sn, by rw [HSB.out]; rfl, fun _ => rfl, hW⟩

set_option maxRecDepth 100000 in
set_option maxHeartbeats 8000000 in
theorem l28Series_three (n : Nl) (x y : Dv) (p q r s : Int) (g f : Int) (v sx sy : Value) (w : World) (hv : NlV w v n) (hxp : x.pins = [g, p, q]) (hyp : y.pins = [f, r, s]) (h : IntSl w sx x.pins) (h' : IntSl w sy y.pins) (hs : Shp x) (ht : Shp y) (hk : y.kind = x.kind) (k2 : x.kind ≠ 2)
    (hl : n.ds.length ≤ 24) (hp3 : ∀ d ∈ n.ds, d.pins.length ≤ 3) (hpl : n.ps.length ≤ 8) :
    Calls Try.prog 42 #[v, .agg #[.int .i64 x.kind, sx, .int .i64 x.wd, .int .i64 x.len], .agg #[.int .i64 y.kind, sy, .int .i64 y.wd, .int .i64 y.len]] w (SerPost n x y w) := by
  obtain ⟨b, off, cap, rfl, c0, c1, c2, hbx⟩ := (hxp ▸ h : IntSl w sx [g, p, q]).three
  obtain ⟨b', off', cap', rfl, d0, d1, d2, hby⟩ := (hyp ▸ h' : IntSl w sy [f, r, s]).three
  have HX := Lib.hid h
  have HY := Lib.hid h'
  have HN := Lib.hid hv
  have HPA := Lib.hid (fun w h h' => l28Parallel_any x y (.slice (some ⟨b, off, none⟩) 3 cap) (.slice (some ⟨b', off', none⟩) 3 cap') w h h' (by rw [hxp]; simp) (by rw [hyp]; simp))
  rw [parS_parB hs ht] at HPA
  have HSX := Lib.hid (fun w h => l28Shorted_any x (.slice (some ⟨b, off, none⟩) 3 cap) w h hs)
  have HSY := Lib.hid (fun w h => l28Shorted_any y (.slice (some ⟨b', off', none⟩) 3 cap') w h ht)
  have HCO := Lib.hid (fun w h h' => l28Common_any x y (.slice (some ⟨b, off, none⟩) 3 cap) (.slice (some ⟨b', off', none⟩) 3 cap') w h h' hs ht hk.symm)
  have HDG := Lib.hid (fun w h => l27Degree_any n v (serN x y) w h hl hp3)
  have HPO := Lib.hid (fun w h => l27Port_any n v (serN x y) w h (by omega))
  have H1 := Lib.hid (fun h => serB_pre (n := n) (preB_par (x := x) (y := y) h))
  have H2 := Lib.hid (fun h => serB_pre (n := n) (preB_sx (x := x) (y := y) h))
  have H3 := Lib.hid (fun h => serB_pre (n := n) (preB_sy (x := x) (y := y) h))
  have H4 := Lib.hid (preB_of (x := x) (y := y) hk.symm)
  have H5 := Lib.hid (@serB_pre n x y)
  have H6 := Lib.hid (@serB_one n x y)
  have H7 := Lib.hid (@serB_use n x y)
  have H8 := Lib.hid (show oneB x y = decide (comC (curP x.pins) (curQ x.pins) (curP y.pins) (curQ y.pins) = 1) from rfl)
  have H9 := Lib.hid (show useB n (serN x y) = (decide (degN n.ds (serN x y) = 2) && !portB n.ps (serN x y)) from rfl)
  obtain ⟨an, cn, an', cn', rfl⟩ := hv.sized
  have HPO2 := Lib.hid (show SerPost n x y w = fun e w' => ∃ r1 : Int, e = .returned (.tuple #[.int .i64 r1, .bool (serB n x y)]) ∧ (serB n x y = true → r1 = serN x y) ∧ Below w.heap.size w w' from rfl)
  generalize SerPost n x y w = PP at *
  generalize comC (curP x.pins) (curQ x.pins) (curP y.pins) (curQ y.pins) = cc at *
  generalize decide (curP x.pins = curQ x.pins) = shx at *
  generalize decide (curP y.pins = curQ y.pins) = shy at *
  have HG1 := Lib.hid (show gateOf x.pins = g by rw [hxp]; rfl)
  have HG2 := Lib.hid (show gateOf y.pins = f by rw [hyp]; rfl)
  have hsb : 0 ≤ (1 : Int) := by omega
  generalize parB x y = pb at *
  generalize serB n x y = sb at *
  generalize preB x y = pr at *
  generalize oneB x y = ob at *
  generalize useB n (serN x y) = ub at *
  generalize serN x y = sn at *
  generalize degN n.ds sn = dg at *
  generalize portB n.ps sn = po at *
  rw [hk] at HPA HSY HCO
  rw [hk]
  have HK := Lib.hid k2
  have k0 : Blk (((w.alloc (.cells #[.int .i64 n.nets, .slice an n.ds.length cn, .slice an' n.ps.length cn'] 30)).alloc (.cells #[.int .i64 x.kind, .slice (some ⟨b, off, none⟩) 3 cap, .int .i64 x.wd, .int .i64 x.len] 46)).alloc (.cells #[.int .i64 x.kind, .slice (some ⟨b', off', none⟩) 3 cap', .int .i64 y.wd, .int .i64 y.len] 46)) w.heap.size #[.int .i64 n.nets, .slice an n.ds.length cn, .slice an' n.ps.length cn'] 30 := (by ((repeat (first | (with_reducible assumption) | (with_reducible refine Blk.drewN ?_ _) | (with_reducible refine Blk.drew ?_) | ((with_reducible refine Blk.new _ ?_); focus (first | omega | (simp; done) | (simp; omega))) | (with_reducible refine Blk.past ?_ _) | ((with_reducible refine Blk.apart ?_ _ _ _ ?_); rotate_left; focus (first | omega | (simp; done) | (simp; omega))) | (with_reducible refine Blk.by (by assumption) ?_))); done))
  have k1 : Blk (((w.alloc (.cells #[.int .i64 n.nets, .slice an n.ds.length cn, .slice an' n.ps.length cn'] 30)).alloc (.cells #[.int .i64 x.kind, .slice (some ⟨b, off, none⟩) 3 cap, .int .i64 x.wd, .int .i64 x.len] 46)).alloc (.cells #[.int .i64 x.kind, .slice (some ⟨b', off', none⟩) 3 cap', .int .i64 y.wd, .int .i64 y.len] 46)) (w.heap.size + 1) #[.int .i64 x.kind, .slice (some ⟨b, off, none⟩) 3 cap, .int .i64 x.wd, .int .i64 x.len] 46 := (by ((repeat (first | (with_reducible assumption) | (with_reducible refine Blk.drewN ?_ _) | (with_reducible refine Blk.drew ?_) | ((with_reducible refine Blk.new _ ?_); focus (first | omega | (simp; done) | (simp; omega))) | (with_reducible refine Blk.past ?_ _) | ((with_reducible refine Blk.apart ?_ _ _ _ ?_); rotate_left; focus (first | omega | (simp; done) | (simp; omega))) | (with_reducible refine Blk.by (by assumption) ?_))); done))
  have k2_ : Blk (((w.alloc (.cells #[.int .i64 n.nets, .slice an n.ds.length cn, .slice an' n.ps.length cn'] 30)).alloc (.cells #[.int .i64 x.kind, .slice (some ⟨b, off, none⟩) 3 cap, .int .i64 x.wd, .int .i64 x.len] 46)).alloc (.cells #[.int .i64 x.kind, .slice (some ⟨b', off', none⟩) 3 cap', .int .i64 y.wd, .int .i64 y.len] 46)) (w.heap.size + 1 + 1) #[.int .i64 x.kind, .slice (some ⟨b', off', none⟩) 3 cap', .int .i64 y.wd, .int .i64 y.len] 46 := (by ((repeat (first | (with_reducible assumption) | (with_reducible refine Blk.drewN ?_ _) | (with_reducible refine Blk.drew ?_) | ((with_reducible refine Blk.new _ ?_); focus (first | omega | (simp; done) | (simp; omega))) | (with_reducible refine Blk.past ?_ _) | ((with_reducible refine Blk.apart ?_ _ _ _ ?_); rotate_left; focus (first | omega | (simp; done) | (simp; omega))) | (with_reducible refine Blk.by (by assumption) ?_))); done))
  have hW : Below w.heap.size w (((w.alloc (.cells #[.int .i64 n.nets, .slice an n.ds.length cn, .slice an' n.ps.length cn'] 30)).alloc (.cells #[.int .i64 x.kind, .slice (some ⟨b, off, none⟩) 3 cap, .int .i64 x.wd, .int .i64 x.len] 46)).alloc (.cells #[.int .i64 x.kind, .slice (some ⟨b', off', none⟩) 3 cap', .int .i64 y.wd, .int .i64 y.len] 46)) := (by ((repeat (first | (with_reducible exact Below.refl _ _) | (with_reducible refine below_drewN ?_ _) | (with_reducible refine Below.drew ?_) | (with_reducible refine below_al ?_ _) | (with_reducible refine below_on (by assumption) ?_) | ((with_reducible refine Below.setCell ?_ ?_ _); rotate_left; focus (first | omega | (simp; done) | (simp; omega))) | (with_reducible assumption))); done))
  have e0 := k0.cell
  have e1 := k1.cell
  have e2 := k2_.cell
  have hkb : (x.kind != 2) = true := by simpa using k2
  clear hv h h' hxp hyp hs ht hk hl hp3 hpl hsb k2
  cases pb with
  | true =>
    have hsb := H1.out rfl
    subst hsb
    go_enter Try.func42, Try.ntmps42
    go_wp2_with (first | (go_at_call 41; refine (HPA.out _ (HX.out.by hW) (HY.out.by hW)).mono ?_; rintro e w1 ⟨rfl, hb⟩; replace k0 := Blk.by hb k0; replace k1 := Blk.by hb k1; replace k2_ := Blk.by hb k2_; replace hW := below_on hb hW; clear hb e0 e1 e2; have e0 := k0.cell; have e1 := k1.cell; have e2 := k2_.cell) | (go_at_call_of 86 (Value.slice (some ⟨b, off, none⟩) 3 cap); refine (HSX.out _ (HX.out.by hW)).mono ?_; rintro e w2 ⟨rfl, hb⟩; replace k0 := Blk.by hb k0; replace k1 := Blk.by hb k1; replace k2_ := Blk.by hb k2_; replace hW := below_on hb hW; clear hb e0 e1 e2; have e0 := k0.cell; have e1 := k1.cell; have e2 := k2_.cell) | (go_at_call 86; refine (HSY.out _ (HY.out.by hW)).mono ?_; rintro e w3 ⟨rfl, hb⟩; replace k0 := Blk.by hb k0; replace k1 := Blk.by hb k1; replace k2_ := Blk.by hb k2_; replace hW := below_on hb hW; clear hb e0 e1 e2; have e0 := k0.cell; have e1 := k1.cell; have e2 := k2_.cell) | (go_at_call 87; refine (HCO.out _ (HX.out.by hW) (HY.out.by hW)).mono ?_; rintro e w4 ⟨rfl, hb⟩; replace k0 := Blk.by hb k0; replace k1 := Blk.by hb k1; replace k2_ := Blk.by hb k2_; replace hW := below_on hb hW; clear hb e0 e1 e2; have e0 := k0.cell; have e1 := k1.cell; have e2 := k2_.cell) | (go_at_call 88; refine (HDG.out _ (HN.out.by hW)).mono ?_; rintro e w5 ⟨rfl, hb⟩; replace k0 := Blk.by hb k0; replace k1 := Blk.by hb k1; replace k2_ := Blk.by hb k2_; replace hW := below_on hb hW; clear hb e0 e1 e2; have e0 := k0.cell; have e1 := k1.cell; have e2 := k2_.cell) | (go_at_call 89; refine (HPO.out _ (HN.out.by hW)).mono ?_; rintro e w6 ⟨rfl, hb⟩; replace k0 := Blk.by hb k0; replace k1 := Blk.by hb k1; replace k2_ := Blk.by hb k2_; replace hW := below_on hb hW; clear hb e0 e1 e2; have e0 := k0.cell; have e1 := k1.cell; have e2 := k2_.cell))
    rw [HPO2.out]
    exact ⟨0, rfl, (fun h => by cases h), hW⟩
  | false =>
  cases shx with
  | true =>
    have hsb := H2.out rfl
    subst hsb
    go_enter Try.func42, Try.ntmps42
    go_wp2_with (first | (go_at_call 41; refine (HPA.out _ (HX.out.by hW) (HY.out.by hW)).mono ?_; rintro e w1 ⟨rfl, hb⟩; replace k0 := Blk.by hb k0; replace k1 := Blk.by hb k1; replace k2_ := Blk.by hb k2_; replace hW := below_on hb hW; clear hb e0 e1 e2; have e0 := k0.cell; have e1 := k1.cell; have e2 := k2_.cell) | (go_at_call_of 86 (Value.slice (some ⟨b, off, none⟩) 3 cap); refine (HSX.out _ (HX.out.by hW)).mono ?_; rintro e w2 ⟨rfl, hb⟩; replace k0 := Blk.by hb k0; replace k1 := Blk.by hb k1; replace k2_ := Blk.by hb k2_; replace hW := below_on hb hW; clear hb e0 e1 e2; have e0 := k0.cell; have e1 := k1.cell; have e2 := k2_.cell) | (go_at_call 86; refine (HSY.out _ (HY.out.by hW)).mono ?_; rintro e w3 ⟨rfl, hb⟩; replace k0 := Blk.by hb k0; replace k1 := Blk.by hb k1; replace k2_ := Blk.by hb k2_; replace hW := below_on hb hW; clear hb e0 e1 e2; have e0 := k0.cell; have e1 := k1.cell; have e2 := k2_.cell) | (go_at_call 87; refine (HCO.out _ (HX.out.by hW) (HY.out.by hW)).mono ?_; rintro e w4 ⟨rfl, hb⟩; replace k0 := Blk.by hb k0; replace k1 := Blk.by hb k1; replace k2_ := Blk.by hb k2_; replace hW := below_on hb hW; clear hb e0 e1 e2; have e0 := k0.cell; have e1 := k1.cell; have e2 := k2_.cell) | (go_at_call 88; refine (HDG.out _ (HN.out.by hW)).mono ?_; rintro e w5 ⟨rfl, hb⟩; replace k0 := Blk.by hb k0; replace k1 := Blk.by hb k1; replace k2_ := Blk.by hb k2_; replace hW := below_on hb hW; clear hb e0 e1 e2; have e0 := k0.cell; have e1 := k1.cell; have e2 := k2_.cell) | (go_at_call 89; refine (HPO.out _ (HN.out.by hW)).mono ?_; rintro e w6 ⟨rfl, hb⟩; replace k0 := Blk.by hb k0; replace k1 := Blk.by hb k1; replace k2_ := Blk.by hb k2_; replace hW := below_on hb hW; clear hb e0 e1 e2; have e0 := k0.cell; have e1 := k1.cell; have e2 := k2_.cell))
    rw [HPO2.out]
    exact ⟨0, rfl, (fun h => by cases h), hW⟩
  | false =>
  cases shy with
  | true =>
    have hsb := H3.out rfl
    subst hsb
    go_enter Try.func42, Try.ntmps42
    go_wp2_with (first | (go_at_call 41; refine (HPA.out _ (HX.out.by hW) (HY.out.by hW)).mono ?_; rintro e w1 ⟨rfl, hb⟩; replace k0 := Blk.by hb k0; replace k1 := Blk.by hb k1; replace k2_ := Blk.by hb k2_; replace hW := below_on hb hW; clear hb e0 e1 e2; have e0 := k0.cell; have e1 := k1.cell; have e2 := k2_.cell) | (go_at_call_of 86 (Value.slice (some ⟨b, off, none⟩) 3 cap); refine (HSX.out _ (HX.out.by hW)).mono ?_; rintro e w2 ⟨rfl, hb⟩; replace k0 := Blk.by hb k0; replace k1 := Blk.by hb k1; replace k2_ := Blk.by hb k2_; replace hW := below_on hb hW; clear hb e0 e1 e2; have e0 := k0.cell; have e1 := k1.cell; have e2 := k2_.cell) | (go_at_call 86; refine (HSY.out _ (HY.out.by hW)).mono ?_; rintro e w3 ⟨rfl, hb⟩; replace k0 := Blk.by hb k0; replace k1 := Blk.by hb k1; replace k2_ := Blk.by hb k2_; replace hW := below_on hb hW; clear hb e0 e1 e2; have e0 := k0.cell; have e1 := k1.cell; have e2 := k2_.cell) | (go_at_call 87; refine (HCO.out _ (HX.out.by hW) (HY.out.by hW)).mono ?_; rintro e w4 ⟨rfl, hb⟩; replace k0 := Blk.by hb k0; replace k1 := Blk.by hb k1; replace k2_ := Blk.by hb k2_; replace hW := below_on hb hW; clear hb e0 e1 e2; have e0 := k0.cell; have e1 := k1.cell; have e2 := k2_.cell) | (go_at_call 88; refine (HDG.out _ (HN.out.by hW)).mono ?_; rintro e w5 ⟨rfl, hb⟩; replace k0 := Blk.by hb k0; replace k1 := Blk.by hb k1; replace k2_ := Blk.by hb k2_; replace hW := below_on hb hW; clear hb e0 e1 e2; have e0 := k0.cell; have e1 := k1.cell; have e2 := k2_.cell) | (go_at_call 89; refine (HPO.out _ (HN.out.by hW)).mono ?_; rintro e w6 ⟨rfl, hb⟩; replace k0 := Blk.by hb k0; replace k1 := Blk.by hb k1; replace k2_ := Blk.by hb k2_; replace hW := below_on hb hW; clear hb e0 e1 e2; have e0 := k0.cell; have e1 := k1.cell; have e2 := k2_.cell))
    rw [HPO2.out]
    exact ⟨0, rfl, (fun h => by cases h), hW⟩
  | false =>
  have hpr := Lib.hid (H4.out rfl rfl rfl)
  by_cases hg : g = f
  · have hg' : (g != f) = false := by simpa using hg
    by_cases hw : x.wd = y.wd
    · have hw' : (x.wd != y.wd) = false := by simpa using hw
      have PRT := Lib.hid (show pr = true by rw [hpr.out, HG1.out, HG2.out]; simp [hg, hw])
      clear hg hw
      by_cases hc : cc = 1
      · have hob : ob = true := by rw [H8.out]; simp [hc]
        have hsb := H7.out PRT.out hob
        rw [H9.out] at hsb
        have hc' : (cc == 1) = true := by simpa using hc
        by_cases hd : dg = 2
        · have hd' : ((dg : Int) == 2) = true := by simp [hd]
          have HSB := Lib.hid (show sb = !po by rw [hsb]; simp [hd])
          clear hsb hob hc hd
          go_enter Try.func42, Try.ntmps42
          go_wp2_with (first | (go_at_call 41; refine (HPA.out _ (HX.out.by hW) (HY.out.by hW)).mono ?_; rintro e w1 ⟨rfl, hb⟩; replace k0 := Blk.by hb k0; replace k1 := Blk.by hb k1; replace k2_ := Blk.by hb k2_; replace hW := below_on hb hW; clear hb e0 e1 e2; have e0 := k0.cell; have e1 := k1.cell; have e2 := k2_.cell) | (go_at_call_of 86 (Value.slice (some ⟨b, off, none⟩) 3 cap); refine (HSX.out _ (HX.out.by hW)).mono ?_; rintro e w2 ⟨rfl, hb⟩; replace k0 := Blk.by hb k0; replace k1 := Blk.by hb k1; replace k2_ := Blk.by hb k2_; replace hW := below_on hb hW; clear hb e0 e1 e2; have e0 := k0.cell; have e1 := k1.cell; have e2 := k2_.cell) | (go_at_call 86; refine (HSY.out _ (HY.out.by hW)).mono ?_; rintro e w3 ⟨rfl, hb⟩; replace k0 := Blk.by hb k0; replace k1 := Blk.by hb k1; replace k2_ := Blk.by hb k2_; replace hW := below_on hb hW; clear hb e0 e1 e2; have e0 := k0.cell; have e1 := k1.cell; have e2 := k2_.cell) | (go_at_call 87; refine (HCO.out _ (HX.out.by hW) (HY.out.by hW)).mono ?_; rintro e w4 ⟨rfl, hb⟩; replace k0 := Blk.by hb k0; replace k1 := Blk.by hb k1; replace k2_ := Blk.by hb k2_; replace hW := below_on hb hW; clear hb e0 e1 e2; have e0 := k0.cell; have e1 := k1.cell; have e2 := k2_.cell) | (go_at_call 88; refine (HDG.out _ (HN.out.by hW)).mono ?_; rintro e w5 ⟨rfl, hb⟩; replace k0 := Blk.by hb k0; replace k1 := Blk.by hb k1; replace k2_ := Blk.by hb k2_; replace hW := below_on hb hW; clear hb e0 e1 e2; have e0 := k0.cell; have e1 := k1.cell; have e2 := k2_.cell) | (go_at_call 89; refine (HPO.out _ (HN.out.by hW)).mono ?_; rintro e w6 ⟨rfl, hb⟩; replace k0 := Blk.by hb k0; replace k1 := Blk.by hb k1; replace k2_ := Blk.by hb k2_; replace hW := below_on hb hW; clear hb e0 e1 e2; have e0 := k0.cell; have e1 := k1.cell; have e2 := k2_.cell))
          clear e0 e1 e2; have e0 := k0.cell; have e1 := k1.cell; have e2 := k2_.cell
          have u0 := cell_by' hW c0
          have v0 := cell_by' hW d0
          have u1 := cell_by' hW c1
          have v1 := cell_by' hW d1
          have u2 := cell_by' hW c2
          have v2 := cell_by' hW d2
          go_quiet (fail)
          replace k0 := k0.drewN nq; replace k1 := k1.drewN nq; replace k2_ := k2_.drewN nq; replace hW := below_drewN hW nq; clear e0 e1 e2; have e0 := k0.cell; have e1 := k1.cell; have e2 := k2_.cell
          go_wp2_with (first | (go_at_call 41; refine (HPA.out _ (HX.out.by hW) (HY.out.by hW)).mono ?_; rintro e w1 ⟨rfl, hb⟩; replace k0 := Blk.by hb k0; replace k1 := Blk.by hb k1; replace k2_ := Blk.by hb k2_; replace hW := below_on hb hW; clear hb e0 e1 e2; have e0 := k0.cell; have e1 := k1.cell; have e2 := k2_.cell) | (go_at_call_of 86 (Value.slice (some ⟨b, off, none⟩) 3 cap); refine (HSX.out _ (HX.out.by hW)).mono ?_; rintro e w2 ⟨rfl, hb⟩; replace k0 := Blk.by hb k0; replace k1 := Blk.by hb k1; replace k2_ := Blk.by hb k2_; replace hW := below_on hb hW; clear hb e0 e1 e2; have e0 := k0.cell; have e1 := k1.cell; have e2 := k2_.cell) | (go_at_call 86; refine (HSY.out _ (HY.out.by hW)).mono ?_; rintro e w3 ⟨rfl, hb⟩; replace k0 := Blk.by hb k0; replace k1 := Blk.by hb k1; replace k2_ := Blk.by hb k2_; replace hW := below_on hb hW; clear hb e0 e1 e2; have e0 := k0.cell; have e1 := k1.cell; have e2 := k2_.cell) | (go_at_call 87; refine (HCO.out _ (HX.out.by hW) (HY.out.by hW)).mono ?_; rintro e w4 ⟨rfl, hb⟩; replace k0 := Blk.by hb k0; replace k1 := Blk.by hb k1; replace k2_ := Blk.by hb k2_; replace hW := below_on hb hW; clear hb e0 e1 e2; have e0 := k0.cell; have e1 := k1.cell; have e2 := k2_.cell) | (go_at_call 88; refine (HDG.out _ (HN.out.by hW)).mono ?_; rintro e w5 ⟨rfl, hb⟩; replace k0 := Blk.by hb k0; replace k1 := Blk.by hb k1; replace k2_ := Blk.by hb k2_; replace hW := below_on hb hW; clear hb e0 e1 e2; have e0 := k0.cell; have e1 := k1.cell; have e2 := k2_.cell) | (go_at_call 89; refine (HPO.out _ (HN.out.by hW)).mono ?_; rintro e w6 ⟨rfl, hb⟩; replace k0 := Blk.by hb k0; replace k1 := Blk.by hb k1; replace k2_ := Blk.by hb k2_; replace hW := below_on hb hW; clear hb e0 e1 e2; have e0 := k0.cell; have e1 := k1.cell; have e2 := k2_.cell))
          rw [HPO2.out]
          exact ⟨sn, by rw [HSB.out]; rfl, fun _ => rfl, hW⟩
        · have hd' : ((dg : Int) == 2) = false := by rw [beq_eq_false_iff_ne]; omega
          have HSB := Lib.hid (show sb = false by rw [hsb]; simp [hd])
          clear hsb hob hc hd
          go_enter Try.func42, Try.ntmps42
          go_wp2_with (first | (go_at_call 41; refine (HPA.out _ (HX.out.by hW) (HY.out.by hW)).mono ?_; rintro e w1 ⟨rfl, hb⟩; replace k0 := Blk.by hb k0; replace k1 := Blk.by hb k1; replace k2_ := Blk.by hb k2_; replace hW := below_on hb hW; clear hb e0 e1 e2; have e0 := k0.cell; have e1 := k1.cell; have e2 := k2_.cell) | (go_at_call_of 86 (Value.slice (some ⟨b, off, none⟩) 3 cap); refine (HSX.out _ (HX.out.by hW)).mono ?_; rintro e w2 ⟨rfl, hb⟩; replace k0 := Blk.by hb k0; replace k1 := Blk.by hb k1; replace k2_ := Blk.by hb k2_; replace hW := below_on hb hW; clear hb e0 e1 e2; have e0 := k0.cell; have e1 := k1.cell; have e2 := k2_.cell) | (go_at_call 86; refine (HSY.out _ (HY.out.by hW)).mono ?_; rintro e w3 ⟨rfl, hb⟩; replace k0 := Blk.by hb k0; replace k1 := Blk.by hb k1; replace k2_ := Blk.by hb k2_; replace hW := below_on hb hW; clear hb e0 e1 e2; have e0 := k0.cell; have e1 := k1.cell; have e2 := k2_.cell) | (go_at_call 87; refine (HCO.out _ (HX.out.by hW) (HY.out.by hW)).mono ?_; rintro e w4 ⟨rfl, hb⟩; replace k0 := Blk.by hb k0; replace k1 := Blk.by hb k1; replace k2_ := Blk.by hb k2_; replace hW := below_on hb hW; clear hb e0 e1 e2; have e0 := k0.cell; have e1 := k1.cell; have e2 := k2_.cell) | (go_at_call 88; refine (HDG.out _ (HN.out.by hW)).mono ?_; rintro e w5 ⟨rfl, hb⟩; replace k0 := Blk.by hb k0; replace k1 := Blk.by hb k1; replace k2_ := Blk.by hb k2_; replace hW := below_on hb hW; clear hb e0 e1 e2; have e0 := k0.cell; have e1 := k1.cell; have e2 := k2_.cell) | (go_at_call 89; refine (HPO.out _ (HN.out.by hW)).mono ?_; rintro e w6 ⟨rfl, hb⟩; replace k0 := Blk.by hb k0; replace k1 := Blk.by hb k1; replace k2_ := Blk.by hb k2_; replace hW := below_on hb hW; clear hb e0 e1 e2; have e0 := k0.cell; have e1 := k1.cell; have e2 := k2_.cell))
          clear e0 e1 e2; have e0 := k0.cell; have e1 := k1.cell; have e2 := k2_.cell
          have u0 := cell_by' hW c0
          have v0 := cell_by' hW d0
          have u1 := cell_by' hW c1
          have v1 := cell_by' hW d1
          have u2 := cell_by' hW c2
          have v2 := cell_by' hW d2
          go_quiet (fail)
          replace k0 := k0.drewN nq; replace k1 := k1.drewN nq; replace k2_ := k2_.drewN nq; replace hW := below_drewN hW nq; clear e0 e1 e2; have e0 := k0.cell; have e1 := k1.cell; have e2 := k2_.cell
          go_wp2_with (first | (go_at_call 41; refine (HPA.out _ (HX.out.by hW) (HY.out.by hW)).mono ?_; rintro e w1 ⟨rfl, hb⟩; replace k0 := Blk.by hb k0; replace k1 := Blk.by hb k1; replace k2_ := Blk.by hb k2_; replace hW := below_on hb hW; clear hb e0 e1 e2; have e0 := k0.cell; have e1 := k1.cell; have e2 := k2_.cell) | (go_at_call_of 86 (Value.slice (some ⟨b, off, none⟩) 3 cap); refine (HSX.out _ (HX.out.by hW)).mono ?_; rintro e w2 ⟨rfl, hb⟩; replace k0 := Blk.by hb k0; replace k1 := Blk.by hb k1; replace k2_ := Blk.by hb k2_; replace hW := below_on hb hW; clear hb e0 e1 e2; have e0 := k0.cell; have e1 := k1.cell; have e2 := k2_.cell) | (go_at_call 86; refine (HSY.out _ (HY.out.by hW)).mono ?_; rintro e w3 ⟨rfl, hb⟩; replace k0 := Blk.by hb k0; replace k1 := Blk.by hb k1; replace k2_ := Blk.by hb k2_; replace hW := below_on hb hW; clear hb e0 e1 e2; have e0 := k0.cell; have e1 := k1.cell; have e2 := k2_.cell) | (go_at_call 87; refine (HCO.out _ (HX.out.by hW) (HY.out.by hW)).mono ?_; rintro e w4 ⟨rfl, hb⟩; replace k0 := Blk.by hb k0; replace k1 := Blk.by hb k1; replace k2_ := Blk.by hb k2_; replace hW := below_on hb hW; clear hb e0 e1 e2; have e0 := k0.cell; have e1 := k1.cell; have e2 := k2_.cell) | (go_at_call 88; refine (HDG.out _ (HN.out.by hW)).mono ?_; rintro e w5 ⟨rfl, hb⟩; replace k0 := Blk.by hb k0; replace k1 := Blk.by hb k1; replace k2_ := Blk.by hb k2_; replace hW := below_on hb hW; clear hb e0 e1 e2; have e0 := k0.cell; have e1 := k1.cell; have e2 := k2_.cell) | (go_at_call 89; refine (HPO.out _ (HN.out.by hW)).mono ?_; rintro e w6 ⟨rfl, hb⟩; replace k0 := Blk.by hb k0; replace k1 := Blk.by hb k1; replace k2_ := Blk.by hb k2_; replace hW := below_on hb hW; clear hb e0 e1 e2; have e0 := k0.cell; have e1 := k1.cell; have e2 := k2_.cell))
          rw [HPO2.out]
          exact ⟨sn, by rw [HSB.out]; rfl, fun _ => rfl, hW⟩
      · have hob : ob = false := by rw [H8.out]; simp [hc]
        have HSB := Lib.hid (H6.out hob)
        have hc' : (cc == 1) = false := by simpa using hc
        clear hob hc
        go_enter Try.func42, Try.ntmps42
        go_wp2_with (first | (go_at_call 41; refine (HPA.out _ (HX.out.by hW) (HY.out.by hW)).mono ?_; rintro e w1 ⟨rfl, hb⟩; replace k0 := Blk.by hb k0; replace k1 := Blk.by hb k1; replace k2_ := Blk.by hb k2_; replace hW := below_on hb hW; clear hb e0 e1 e2; have e0 := k0.cell; have e1 := k1.cell; have e2 := k2_.cell) | (go_at_call_of 86 (Value.slice (some ⟨b, off, none⟩) 3 cap); refine (HSX.out _ (HX.out.by hW)).mono ?_; rintro e w2 ⟨rfl, hb⟩; replace k0 := Blk.by hb k0; replace k1 := Blk.by hb k1; replace k2_ := Blk.by hb k2_; replace hW := below_on hb hW; clear hb e0 e1 e2; have e0 := k0.cell; have e1 := k1.cell; have e2 := k2_.cell) | (go_at_call 86; refine (HSY.out _ (HY.out.by hW)).mono ?_; rintro e w3 ⟨rfl, hb⟩; replace k0 := Blk.by hb k0; replace k1 := Blk.by hb k1; replace k2_ := Blk.by hb k2_; replace hW := below_on hb hW; clear hb e0 e1 e2; have e0 := k0.cell; have e1 := k1.cell; have e2 := k2_.cell) | (go_at_call 87; refine (HCO.out _ (HX.out.by hW) (HY.out.by hW)).mono ?_; rintro e w4 ⟨rfl, hb⟩; replace k0 := Blk.by hb k0; replace k1 := Blk.by hb k1; replace k2_ := Blk.by hb k2_; replace hW := below_on hb hW; clear hb e0 e1 e2; have e0 := k0.cell; have e1 := k1.cell; have e2 := k2_.cell) | (go_at_call 88; refine (HDG.out _ (HN.out.by hW)).mono ?_; rintro e w5 ⟨rfl, hb⟩; replace k0 := Blk.by hb k0; replace k1 := Blk.by hb k1; replace k2_ := Blk.by hb k2_; replace hW := below_on hb hW; clear hb e0 e1 e2; have e0 := k0.cell; have e1 := k1.cell; have e2 := k2_.cell) | (go_at_call 89; refine (HPO.out _ (HN.out.by hW)).mono ?_; rintro e w6 ⟨rfl, hb⟩; replace k0 := Blk.by hb k0; replace k1 := Blk.by hb k1; replace k2_ := Blk.by hb k2_; replace hW := below_on hb hW; clear hb e0 e1 e2; have e0 := k0.cell; have e1 := k1.cell; have e2 := k2_.cell))
        clear e0 e1 e2; have e0 := k0.cell; have e1 := k1.cell; have e2 := k2_.cell
        have u0 := cell_by' hW c0
        have v0 := cell_by' hW d0
        have u1 := cell_by' hW c1
        have v1 := cell_by' hW d1
        have u2 := cell_by' hW c2
        have v2 := cell_by' hW d2
        go_quiet (fail)
        replace k0 := k0.drewN nq; replace k1 := k1.drewN nq; replace k2_ := k2_.drewN nq; replace hW := below_drewN hW nq; clear e0 e1 e2; have e0 := k0.cell; have e1 := k1.cell; have e2 := k2_.cell
        go_wp2_with (first | (go_at_call 41; refine (HPA.out _ (HX.out.by hW) (HY.out.by hW)).mono ?_; rintro e w1 ⟨rfl, hb⟩; replace k0 := Blk.by hb k0; replace k1 := Blk.by hb k1; replace k2_ := Blk.by hb k2_; replace hW := below_on hb hW; clear hb e0 e1 e2; have e0 := k0.cell; have e1 := k1.cell; have e2 := k2_.cell) | (go_at_call_of 86 (Value.slice (some ⟨b, off, none⟩) 3 cap); refine (HSX.out _ (HX.out.by hW)).mono ?_; rintro e w2 ⟨rfl, hb⟩; replace k0 := Blk.by hb k0; replace k1 := Blk.by hb k1; replace k2_ := Blk.by hb k2_; replace hW := below_on hb hW; clear hb e0 e1 e2; have e0 := k0.cell; have e1 := k1.cell; have e2 := k2_.cell) | (go_at_call 86; refine (HSY.out _ (HY.out.by hW)).mono ?_; rintro e w3 ⟨rfl, hb⟩; replace k0 := Blk.by hb k0; replace k1 := Blk.by hb k1; replace k2_ := Blk.by hb k2_; replace hW := below_on hb hW; clear hb e0 e1 e2; have e0 := k0.cell; have e1 := k1.cell; have e2 := k2_.cell) | (go_at_call 87; refine (HCO.out _ (HX.out.by hW) (HY.out.by hW)).mono ?_; rintro e w4 ⟨rfl, hb⟩; replace k0 := Blk.by hb k0; replace k1 := Blk.by hb k1; replace k2_ := Blk.by hb k2_; replace hW := below_on hb hW; clear hb e0 e1 e2; have e0 := k0.cell; have e1 := k1.cell; have e2 := k2_.cell) | (go_at_call 88; refine (HDG.out _ (HN.out.by hW)).mono ?_; rintro e w5 ⟨rfl, hb⟩; replace k0 := Blk.by hb k0; replace k1 := Blk.by hb k1; replace k2_ := Blk.by hb k2_; replace hW := below_on hb hW; clear hb e0 e1 e2; have e0 := k0.cell; have e1 := k1.cell; have e2 := k2_.cell) | (go_at_call 89; refine (HPO.out _ (HN.out.by hW)).mono ?_; rintro e w6 ⟨rfl, hb⟩; replace k0 := Blk.by hb k0; replace k1 := Blk.by hb k1; replace k2_ := Blk.by hb k2_; replace hW := below_on hb hW; clear hb e0 e1 e2; have e0 := k0.cell; have e1 := k1.cell; have e2 := k2_.cell))
        rw [HPO2.out]
        exact ⟨sn, by rw [HSB.out]; rfl, fun _ => rfl, hW⟩
    · have hx' : (x.wd != y.wd) = true := by simpa using hw
      have hsb := H5.out (show pr = false by rw [hpr.out, HG1.out, HG2.out]; simp [HK.out, hw])
      subst hsb
      clear hw
      go_enter Try.func42, Try.ntmps42
      go_wp2_with (first | (go_at_call 41; refine (HPA.out _ (HX.out.by hW) (HY.out.by hW)).mono ?_; rintro e w1 ⟨rfl, hb⟩; replace k0 := Blk.by hb k0; replace k1 := Blk.by hb k1; replace k2_ := Blk.by hb k2_; replace hW := below_on hb hW; clear hb e0 e1 e2; have e0 := k0.cell; have e1 := k1.cell; have e2 := k2_.cell) | (go_at_call_of 86 (Value.slice (some ⟨b, off, none⟩) 3 cap); refine (HSX.out _ (HX.out.by hW)).mono ?_; rintro e w2 ⟨rfl, hb⟩; replace k0 := Blk.by hb k0; replace k1 := Blk.by hb k1; replace k2_ := Blk.by hb k2_; replace hW := below_on hb hW; clear hb e0 e1 e2; have e0 := k0.cell; have e1 := k1.cell; have e2 := k2_.cell) | (go_at_call 86; refine (HSY.out _ (HY.out.by hW)).mono ?_; rintro e w3 ⟨rfl, hb⟩; replace k0 := Blk.by hb k0; replace k1 := Blk.by hb k1; replace k2_ := Blk.by hb k2_; replace hW := below_on hb hW; clear hb e0 e1 e2; have e0 := k0.cell; have e1 := k1.cell; have e2 := k2_.cell) | (go_at_call 87; refine (HCO.out _ (HX.out.by hW) (HY.out.by hW)).mono ?_; rintro e w4 ⟨rfl, hb⟩; replace k0 := Blk.by hb k0; replace k1 := Blk.by hb k1; replace k2_ := Blk.by hb k2_; replace hW := below_on hb hW; clear hb e0 e1 e2; have e0 := k0.cell; have e1 := k1.cell; have e2 := k2_.cell) | (go_at_call 88; refine (HDG.out _ (HN.out.by hW)).mono ?_; rintro e w5 ⟨rfl, hb⟩; replace k0 := Blk.by hb k0; replace k1 := Blk.by hb k1; replace k2_ := Blk.by hb k2_; replace hW := below_on hb hW; clear hb e0 e1 e2; have e0 := k0.cell; have e1 := k1.cell; have e2 := k2_.cell) | (go_at_call 89; refine (HPO.out _ (HN.out.by hW)).mono ?_; rintro e w6 ⟨rfl, hb⟩; replace k0 := Blk.by hb k0; replace k1 := Blk.by hb k1; replace k2_ := Blk.by hb k2_; replace hW := below_on hb hW; clear hb e0 e1 e2; have e0 := k0.cell; have e1 := k1.cell; have e2 := k2_.cell))
      clear e0 e1 e2; have e0 := k0.cell; have e1 := k1.cell; have e2 := k2_.cell
      have u0 := cell_by' hW c0
      have v0 := cell_by' hW d0
      have u1 := cell_by' hW c1
      have v1 := cell_by' hW d1
      have u2 := cell_by' hW c2
      have v2 := cell_by' hW d2
      go_quiet (fail)
      replace k0 := k0.drewN nq; replace k1 := k1.drewN nq; replace k2_ := k2_.drewN nq; replace hW := below_drewN hW nq; clear e0 e1 e2; have e0 := k0.cell; have e1 := k1.cell; have e2 := k2_.cell
      go_wp2
      rw [HPO2.out]
      exact ⟨0, rfl, (fun h => by cases h), hW⟩
  · have hx' : (g != f) = true := by simpa using hg
    have hsb := H5.out (show pr = false by rw [hpr.out, HG1.out, HG2.out]; simp [HK.out, hg])
    subst hsb
    clear hg
    go_enter Try.func42, Try.ntmps42
    go_wp2_with (first | (go_at_call 41; refine (HPA.out _ (HX.out.by hW) (HY.out.by hW)).mono ?_; rintro e w1 ⟨rfl, hb⟩; replace k0 := Blk.by hb k0; replace k1 := Blk.by hb k1; replace k2_ := Blk.by hb k2_; replace hW := below_on hb hW; clear hb e0 e1 e2; have e0 := k0.cell; have e1 := k1.cell; have e2 := k2_.cell) | (go_at_call_of 86 (Value.slice (some ⟨b, off, none⟩) 3 cap); refine (HSX.out _ (HX.out.by hW)).mono ?_; rintro e w2 ⟨rfl, hb⟩; replace k0 := Blk.by hb k0; replace k1 := Blk.by hb k1; replace k2_ := Blk.by hb k2_; replace hW := below_on hb hW; clear hb e0 e1 e2; have e0 := k0.cell; have e1 := k1.cell; have e2 := k2_.cell) | (go_at_call 86; refine (HSY.out _ (HY.out.by hW)).mono ?_; rintro e w3 ⟨rfl, hb⟩; replace k0 := Blk.by hb k0; replace k1 := Blk.by hb k1; replace k2_ := Blk.by hb k2_; replace hW := below_on hb hW; clear hb e0 e1 e2; have e0 := k0.cell; have e1 := k1.cell; have e2 := k2_.cell) | (go_at_call 87; refine (HCO.out _ (HX.out.by hW) (HY.out.by hW)).mono ?_; rintro e w4 ⟨rfl, hb⟩; replace k0 := Blk.by hb k0; replace k1 := Blk.by hb k1; replace k2_ := Blk.by hb k2_; replace hW := below_on hb hW; clear hb e0 e1 e2; have e0 := k0.cell; have e1 := k1.cell; have e2 := k2_.cell) | (go_at_call 88; refine (HDG.out _ (HN.out.by hW)).mono ?_; rintro e w5 ⟨rfl, hb⟩; replace k0 := Blk.by hb k0; replace k1 := Blk.by hb k1; replace k2_ := Blk.by hb k2_; replace hW := below_on hb hW; clear hb e0 e1 e2; have e0 := k0.cell; have e1 := k1.cell; have e2 := k2_.cell) | (go_at_call 89; refine (HPO.out _ (HN.out.by hW)).mono ?_; rintro e w6 ⟨rfl, hb⟩; replace k0 := Blk.by hb k0; replace k1 := Blk.by hb k1; replace k2_ := Blk.by hb k2_; replace hW := below_on hb hW; clear hb e0 e1 e2; have e0 := k0.cell; have e1 := k1.cell; have e2 := k2_.cell))
    clear e0 e1 e2; have e0 := k0.cell; have e1 := k1.cell; have e2 := k2_.cell
    have u0 := cell_by' hW c0
    have v0 := cell_by' hW d0
    have u1 := cell_by' hW c1
    have v1 := cell_by' hW d1
    have u2 := cell_by' hW c2
    have v2 := cell_by' hW d2
    go_quiet (fail)
    replace k0 := k0.drewN nq; replace k1 := k1.drewN nq; replace k2_ := k2_.drewN nq; replace hW := below_drewN hW nq; clear e0 e1 e2; have e0 := k0.cell; have e1 := k1.cell; have e2 := k2_.cell
    go_wp2
    rw [HPO2.out]
    exact ⟨0, rfl, (fun h => by cases h), hW⟩

end Go.Proofs.Ytnchhdhlhlcejaa
