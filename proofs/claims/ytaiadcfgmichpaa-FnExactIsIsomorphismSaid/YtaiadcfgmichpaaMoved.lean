/- Devices with renamed nets: the reference's l30Moved and l30Same, the program's mappedDevice. -/
import Derived.Test.YtaiadcfgmichpaaIsoM
import Derived.Test.YtaiadcfgmichpaaCopyNl
import Derived.Test.YtaiadcfgmichpaaNormB
import Derived.Test.YtaiadcfgmichpaaCmps
import Derived.BigRegion
import Derived.Deep.RegionHeld3
namespace Go.Proofs.Ytaiadcfgmichpaa
open Go.RowKit
set_option linter.unusedVariables false
set_option linter.unusedSimpArgs false

set_option maxRecDepth 100000 in
set_option maxHeartbeats 2000000 in
theorem moved_any (x : Dv) (names : List Int) (sx sn : Value) (w : World) (h : IntSl w sx x.pins) (hn : IntSl w sn names) (hxl : x.pins.length ≤ 3) (hxn : x.pins ≠ []) (hxp : ∀ z ∈ x.pins, 0 ≤ z ∧ z < names.length) :
    Calls Try.prog 134 #[.agg #[.int .i64 x.kind, sx, .int .i64 x.wd, .int .i64 x.len], sn] w fun e w' => ∃ v, e = .returned (.agg #[.int .i64 x.kind, v, .int .i64 x.wd, .int .i64 x.len]) ∧ IntSl w' v (x.pins.map (nmOf names)) ∧ Below w.heap.size w w' := by
  have HN := Lib.hid hn
  have HX := Lib.hid h
  have HCD := Lib.hid (fun w h => own_any x.kind x.wd x.len sx x.pins w h (by omega))
  have HXN := Lib.hid hxn
  have HXP := Lib.hid hxp
  obtain ⟨ax, cx, rfl⟩ := h.len
  obtain ⟨an, cn, rfl⟩ := hn.len
  clear h hn hxn hxp
  go_enter Try.func134, Try.ntmps134
  go_wp2_with fail
  refine (HCD.out _ (HX.out.by (by ((repeat (first | (with_reducible exact Below.refl _ _) | (with_reducible refine below_drewN ?_ _) | (with_reducible refine Below.drew ?_) | (with_reducible refine below_al ?_ _) | (with_reducible refine below_on (by assumption) ?_) | ((with_reducible refine Below.setCell ?_ ?_ _); rotate_left; focus (first | omega | (simp; done) | (simp; omega))) | (with_reducible assumption))); done)))).mono ?_
  rintro e w1 ⟨v1, rfl, hOI, hb1⟩
  obtain ⟨fb, hf1, hf2, hOR⟩ := hOI.pin HXN.out
  obtain ⟨gb, capb, csb, rfl, hgb, hcb, hmb, kB0, HIC0⟩ := hOR.cells HXN.out
  have hgf : gb = fb := by omega
  subst hgf
  have kZ : Blk w1 (w.heap.size + 1) #[.int .i64 0, .slice none 0 0, .int .i64 0, .int .i64 0] 83 := (by ((repeat (first | (with_reducible assumption) | (with_reducible refine Blk.drewN ?_ _) | (with_reducible refine Blk.drew ?_) | ((with_reducible refine Blk.new _ ?_); focus (first | omega | (simp; done) | (simp; omega))) | (with_reducible refine Blk.past ?_ _) | ((with_reducible refine Blk.apart ?_ _ _ _ ?_); rotate_left; focus (first | omega | (simp; done) | (simp; omega))) | (with_reducible refine Blk.by (by assumption) ?_))); done))
  have hb : Below w.heap.size w w1 := (by ((repeat (first | (with_reducible exact Below.refl _ _) | (with_reducible refine below_drewN ?_ _) | (with_reducible refine Below.drew ?_) | (with_reducible refine below_al ?_ _) | (with_reducible refine below_on (by assumption) ?_) | ((with_reducible refine Below.setCell ?_ ?_ _); rotate_left; focus (first | omega | (simp; done) | (simp; omega))) | (with_reducible assumption))); done))
  have HICH := Lib.hid HIC0
  have hbs := hb1.size
  simp only [World.size_alloc] at hbs hf1
  have lZ := kZ.lt
  obtain ⟨Q, hQ⟩ : ∃ Q, w1.heap.size = Q := ⟨_, rfl⟩
  have HQ := Lib.hid hQ
  have hQl : w.heap.size + 1 < Q := by omega
  have hgQ : gb < Q := by omega
  clear hb1 hOI hOR HIC0 hQ
  go_wp2
  rw [HQ.out]
  have hIC : ICs csb (renTo names x.pins 0) := by rw [renTo_zero]; exact HICH.out
  obtain ⟨wA, hwA⟩ : ∃ wA, wA = w1.alloc (.cells #[.int .i64 x.kind, .slice (some ⟨gb, 0, none⟩) x.pins.length capb, .int .i64 x.wd, .int .i64 x.len] 83) := ⟨_, rfl⟩
  have kD : Blk wA Q #[.int .i64 x.kind, .slice (some ⟨gb, 0, none⟩) x.pins.length capb, .int .i64 x.wd, .int .i64 x.len] 83 := by rw [hwA]; exact Blk.new _ HQ.out.symm
  have kBA : Blk wA gb csb 2 := by rw [hwA]; exact kB0.past _
  have kZA : Blk wA (w.heap.size + 1) #[.int .i64 0, .slice none 0 0, .int .i64 0, .int .i64 0] 83 := by rw [hwA]; exact kZ.past _
  have hbA : Below w.heap.size w wA := by rw [hwA]; exact below_al hb _
  rw [← hwA]
  clear hwA HICH kB0 kZ hb lZ hbs
  go_loopw [6] (fun i wr2 => ∃ m : Nat, m ≤ x.pins.length ∧ i = .int .i64 m ∧ Blk wr2 Q #[.int .i64 x.kind, .slice (some ⟨gb, 0, none⟩) x.pins.length capb, .int .i64 x.wd, .int .i64 x.len] 83 ∧ (∃ cs, Blk wr2 gb cs 2 ∧ Hid (ICs cs (renTo names x.pins m))) ∧ Within gb (gb + 1) wA wr2) (fun i _ => x.pins.length - (intOf i).toNat)
  case atStart => exact ⟨0, Nat.zero_le _, rfl, kD, ⟨csb, kBA, Lib.hid hIC⟩, Within.refl _ _ _⟩
  case round =>
    clear kD kBA hIC
    obtain ⟨m, hm, rfl, kD, ⟨cs, kB, HIC⟩, hW2⟩ := hrel
    have cD := kD.cell
    by_cases hlt2 : m < x.pins.length
    · obtain ⟨z, hz⟩ : ∃ z, x.pins[m]? = some z := ⟨x.pins[m], List.getElem?_eq_getElem hlt2⟩
      obtain ⟨hz0, hz1⟩ := HXP.out z (List.mem_of_getElem? hz)
      have cB := kB.cell
      have fB := kB.free
      have cz := HIC.out m z (renTo_get names x.pins m z hz)
      have hNw := HN.out.by (hW2.below hbA (by omega))
      obtain ⟨q, rfl⟩ : ∃ q : Nat, z = q := ⟨z.toNat, by omega⟩
      rcases hNw with ⟨_, _, _, h2⟩ | ⟨nb, noff, ncap, hen, _, _, hcn⟩
      · rw [h2] at hz1; simp at hz1; omega
      obtain ⟨rfl, rfl⟩ : an = some ⟨nb, noff, none⟩ ∧ cn = ncap := by simpa using hen
      have hq : q < names.length := by omega
      have cn := hcn q names[q] (List.getElem?_eq_getElem hq)
      have hnm : nmOf names (q : Int) = names[q] := by simp [nmOf, hq]
      have HZ := Lib.hid hz
      have HNMq := Lib.hid hnm
      generalize names[q] = y at *
      have j1 : (0 : Int) ≤ (m : Int) := by omega
      have j2 : (m : Int) < (x.pins.length : Int) := by omega
      clear hz hnm hen hcn hq
      go_wp2_with fail
      go_region
      all_goals go_wp2_with fail
      exact ⟨⟨m + 1, by omega, by go_num, (kD.apart gb m _ (by omega)).drew, ⟨cs.setIfInBounds m (.int .i64 y), (kB.set m _).drew, Lib.hid (by rw [← renTo_step names x.pins m q HZ.out, HNMq.out]; exact HIC.out.set m y)⟩, (hW2.set gb m _ (Nat.le_refl _) (by omega)).drewN 1⟩, by simp [intOf]; omega⟩
    · obtain rfl : m = x.pins.length := by omega
      have hIC1 : ICs cs (x.pins.map (nmOf names)) := by have := HIC.out; rwa [renTo_all] at this
      have hOR0 := hIC1.own kB (by rw [List.length_map]; exact hcb) hmb
      rw [List.length_map] at hOR0
      have kZ2 := hW2.blk kZA (by omega)
      have hb2 := hW2.below hbA (by omega)
      have HOR := Lib.hid hOR0
      have qZ := kZ2.cell
      have fZ := kZ2.free
      have lZ := kZ2.lt
      clear hIC1 hOR0 HIC
      go_wp2
      refine bodyPost_ret (v := .agg #[.int .i64 x.kind, .slice (some ⟨gb, 0, none⟩) x.pins.length capb, .int .i64 x.wd, .int .i64 x.len]) (by simp [results, Try.results134, go_sem, *]) rfl ⟨_, rfl, ?_, (by ((repeat (first | (with_reducible exact Below.refl _ _) | (with_reducible refine below_drewN ?_ _) | (with_reducible refine Below.drew ?_) | (with_reducible refine below_al ?_ _) | (with_reducible refine below_on (by assumption) ?_) | ((with_reducible refine Below.setCell ?_ ?_ _); rotate_left; focus (first | omega | (simp; done) | (simp; omega))) | (with_reducible assumption))); done))⟩
      exact (((((HOR.out.past (Within.off _) (by omega)).past (Within.off _) (by omega)).past (Within.off _) (by omega)).past (Within.off _) (by omega)) : OwnR _ gb (gb + 1) _ _).sl
set_option maxRecDepth 100000 in
set_option maxHeartbeats 2000000 in
theorem mapped_any (x : Dv) (names : List Int) (sx sn : Value) (w : World) (h : IntSl w sx x.pins) (hn : IntSl w sn names) (hxl : x.pins.length ≤ 3) (hxn : x.pins ≠ []) (hxp : ∀ z ∈ x.pins, 0 ≤ z ∧ z < names.length) :
    Calls Try.prog 87 #[.agg #[.int .i64 x.kind, sx, .int .i64 x.wd, .int .i64 x.len], sn] w fun e w' => ∃ v, e = .returned (.agg #[.int .i64 x.kind, v, .int .i64 x.wd, .int .i64 x.len]) ∧ IntSl w' v (normz x.kind (x.pins.map (nmOf names))) ∧ Below w.heap.size w w' := by
  have HN := Lib.hid hn
  have HX := Lib.hid h
  have HCD := Lib.hid (fun w h => copyDevice_any x.kind x.wd x.len sx x.pins w h (by omega))
  have HXN := Lib.hid hxn
  have HXP := Lib.hid hxp
  have HNM := Lib.hid (fun sv w h => implNorm_any x.kind x.wd x.len sv (x.pins.map (nmOf names)) w h (by simp; omega))
  generalize normz x.kind (x.pins.map (nmOf names)) = NZ at *
  obtain ⟨ax, cx, rfl⟩ := h.len
  obtain ⟨an, cn, rfl⟩ := hn.len
  clear h hn hxn hxp
  go_enter Try.func87, Try.ntmps87
  go_wp2_with fail
  refine (HCD.out _ (HX.out.by (by ((repeat (first | (with_reducible exact Below.refl _ _) | (with_reducible refine below_drewN ?_ _) | (with_reducible refine Below.drew ?_) | (with_reducible refine below_al ?_ _) | (with_reducible refine below_on (by assumption) ?_) | ((with_reducible refine Below.setCell ?_ ?_ _); rotate_left; focus (first | omega | (simp; done) | (simp; omega))) | (with_reducible assumption))); done)))).mono ?_
  rintro e w1 ⟨v1, rfl, hOI, hb1⟩
  obtain ⟨fb, hf1, hf2, hOR⟩ := hOI.pin HXN.out
  obtain ⟨gb, capb, csb, rfl, hgb, hcb, hmb, kB0, HIC0⟩ := hOR.cells HXN.out
  have hgf : gb = fb := by omega
  subst hgf
  have kZ : Blk w1 (w.heap.size + 1) #[.int .i64 0, .slice none 0 0, .int .i64 0, .int .i64 0] 83 := (by ((repeat (first | (with_reducible assumption) | (with_reducible refine Blk.drewN ?_ _) | (with_reducible refine Blk.drew ?_) | ((with_reducible refine Blk.new _ ?_); focus (first | omega | (simp; done) | (simp; omega))) | (with_reducible refine Blk.past ?_ _) | ((with_reducible refine Blk.apart ?_ _ _ _ ?_); rotate_left; focus (first | omega | (simp; done) | (simp; omega))) | (with_reducible refine Blk.by (by assumption) ?_))); done))
  have hb : Below w.heap.size w w1 := (by ((repeat (first | (with_reducible exact Below.refl _ _) | (with_reducible refine below_drewN ?_ _) | (with_reducible refine Below.drew ?_) | (with_reducible refine below_al ?_ _) | (with_reducible refine below_on (by assumption) ?_) | ((with_reducible refine Below.setCell ?_ ?_ _); rotate_left; focus (first | omega | (simp; done) | (simp; omega))) | (with_reducible assumption))); done))
  have HICH := Lib.hid HIC0
  have hbs := hb1.size
  simp only [World.size_alloc] at hbs hf1
  have lZ := kZ.lt
  obtain ⟨Q, hQ⟩ : ∃ Q, w1.heap.size = Q := ⟨_, rfl⟩
  have HQ := Lib.hid hQ
  have hQl : w.heap.size + 1 < Q := by omega
  have hgQ : gb < Q := by omega
  clear hb1 hOI hOR HIC0 hQ
  go_wp2
  rw [HQ.out]
  have hIC : ICs csb (renTo names x.pins 0) := by rw [renTo_zero]; exact HICH.out
  obtain ⟨wA, hwA⟩ : ∃ wA, wA = w1.alloc (.cells #[.int .i64 x.kind, .slice (some ⟨gb, 0, none⟩) x.pins.length capb, .int .i64 x.wd, .int .i64 x.len] 83) := ⟨_, rfl⟩
  have kD : Blk wA Q #[.int .i64 x.kind, .slice (some ⟨gb, 0, none⟩) x.pins.length capb, .int .i64 x.wd, .int .i64 x.len] 83 := by rw [hwA]; exact Blk.new _ HQ.out.symm
  have kBA : Blk wA gb csb 2 := by rw [hwA]; exact kB0.past _
  have kZA : Blk wA (w.heap.size + 1) #[.int .i64 0, .slice none 0 0, .int .i64 0, .int .i64 0] 83 := by rw [hwA]; exact kZ.past _
  have hbA : Below w.heap.size w wA := by rw [hwA]; exact below_al hb _
  rw [← hwA]
  clear hwA HICH kB0 kZ hb lZ hbs
  go_loopw [13] (fun i wr2 => ∃ m : Nat, m ≤ x.pins.length ∧ i = .int .i64 m ∧ Blk wr2 Q #[.int .i64 x.kind, .slice (some ⟨gb, 0, none⟩) x.pins.length capb, .int .i64 x.wd, .int .i64 x.len] 83 ∧ (∃ cs, Blk wr2 gb cs 2 ∧ Hid (ICs cs (renTo names x.pins m))) ∧ Within gb (gb + 1) wA wr2) (fun i _ => x.pins.length - (intOf i).toNat)
  case atStart => exact ⟨0, Nat.zero_le _, rfl, kD, ⟨csb, kBA, Lib.hid hIC⟩, Within.refl _ _ _⟩
  case round =>
    clear kD kBA hIC
    obtain ⟨m, hm, rfl, kD, ⟨cs, kB, HIC⟩, hW2⟩ := hrel
    have cD := kD.cell
    by_cases hlt2 : m < x.pins.length
    · obtain ⟨z, hz⟩ : ∃ z, x.pins[m]? = some z := ⟨x.pins[m], List.getElem?_eq_getElem hlt2⟩
      obtain ⟨hz0, hz1⟩ := HXP.out z (List.mem_of_getElem? hz)
      have cB := kB.cell
      have fB := kB.free
      have cz := HIC.out m z (renTo_get names x.pins m z hz)
      have hNw := HN.out.by (hW2.below hbA (by omega))
      obtain ⟨q, rfl⟩ : ∃ q : Nat, z = q := ⟨z.toNat, by omega⟩
      rcases hNw with ⟨_, _, _, h2⟩ | ⟨nb, noff, ncap, hen, _, _, hcn⟩
      · rw [h2] at hz1; simp at hz1; omega
      obtain ⟨rfl, rfl⟩ : an = some ⟨nb, noff, none⟩ ∧ cn = ncap := by simpa using hen
      have hq : q < names.length := by omega
      have cn := hcn q names[q] (List.getElem?_eq_getElem hq)
      have hnm : nmOf names (q : Int) = names[q] := by simp [nmOf, hq]
      have HZ := Lib.hid hz
      have HNMq := Lib.hid hnm
      generalize names[q] = y at *
      have j1 : (0 : Int) ≤ (m : Int) := by omega
      have j2 : (m : Int) < (x.pins.length : Int) := by omega
      clear hz hnm hen hcn hq
      go_wp2_with fail
      go_region
      all_goals go_wp2_with fail
      exact ⟨⟨m + 1, by omega, by go_num, (kD.apart gb m _ (by omega)).drew, ⟨cs.setIfInBounds m (.int .i64 y), (kB.set m _).drew, Lib.hid (by rw [← renTo_step names x.pins m q HZ.out, HNMq.out]; exact HIC.out.set m y)⟩, (hW2.set gb m _ (Nat.le_refl _) (by omega)).drewN 1⟩, by simp [intOf]; omega⟩
    · obtain rfl : m = x.pins.length := by omega
      have hIC1 : ICs cs (x.pins.map (nmOf names)) := by have := HIC.out; rwa [renTo_all] at this
      have hOR0 := hIC1.own kB (by rw [List.length_map]; exact hcb) hmb
      rw [List.length_map] at hOR0
      have kZ2 := hW2.blk kZA (by omega)
      have hb2 := hW2.below hbA (by omega)
      have HOS := Lib.hid hOR0.sl
      have hZg := kZ2.lt
      clear hIC1 hOR0 HIC
      go_wp2_with fail
      refine (HNM.out _ _ HOS.out).mono ?_
      rintro e w3 ⟨v3, rfl, hO3, hb3⟩
      replace kZ2 := Blk.by hb3 kZ2
      have hb4 := below_on hb3 hb2
      obtain ⟨a3, c3, rfl⟩ := hO3.len
      have HO3 := Lib.hid hO3
      have qZ := kZ2.cell
      have fZ := kZ2.free
      have lZ := kZ2.lt
      have sW := hW2.size
      clear hO3 cD
      go_wp2
      refine bodyPost_ret (v := .agg #[.int .i64 x.kind, .slice a3 NZ.length c3, .int .i64 x.wd, .int .i64 x.len]) (by simp [results, Try.results87, go_sem, *]) rfl ⟨_, rfl, ?_, (by ((repeat (first | (with_reducible exact Below.refl _ _) | (with_reducible refine below_drewN ?_ _) | (with_reducible refine Below.drew ?_) | (with_reducible refine below_al ?_ _) | (with_reducible refine below_on (by assumption) ?_) | ((with_reducible refine Below.setCell ?_ ?_ _); rotate_left; focus (first | omega | (simp; done) | (simp; omega))) | (with_reducible assumption))); done))⟩
      refine OwnI.sl (lo := wr.heap.size) ?_
      repeat (first | (with_reducible exact HO3.out) | ((with_reducible refine OwnI.apart ?_ _ _ _ ?_); rotate_left; focus omega))

set_option maxRecDepth 100000 in
set_option maxHeartbeats 2000000 in
theorem same_any (x y : Dv) (names : List Int) (sx sy sn : Value) (w : World) (h : IntSl w sx x.pins) (h' : IntSl w sy y.pins) (hn : IntSl w sn names) (hxl : x.pins.length ≤ 3) (hxn : x.pins ≠ []) (hxp : ∀ z ∈ x.pins, 0 ≤ z ∧ z < names.length) (hyl : y.pins.length ≤ 3) :
    Calls Try.prog 85 #[.agg #[.int .i64 x.kind, sx, .int .i64 x.wd, .int .i64 x.len], .agg #[.int .i64 y.kind, sy, .int .i64 y.wd, .int .i64 y.len], sn] w fun e w' => e = .returned (.bool (isoD names x y)) ∧ Below w.heap.size w w' := by
  have HB := Lib.hid (show isoD names x y = decide (devcmp x.kind y.kind (normz x.kind (x.pins.map (nmOf names))) (normz y.kind y.pins) x.wd y.wd x.len y.len = 0) from rfl)
  have HX := Lib.hid h
  have HY := Lib.hid h'
  have HN := Lib.hid hn
  have HM := Lib.hid (fun w h h' => moved_any x names sx sn w h h' hxl hxn hxp)
  have HN1 := Lib.hid (fun sv w h => specNorm_any x.kind x.wd x.len sv (x.pins.map (nmOf names)) w h (by simp; omega))
  have HN2 := Lib.hid (fun w h => specNorm_any y.kind y.wd y.len sy y.pins w h (by omega))
  have HC := Lib.hid (fun s1 s2 w h h' => specCompareDevices_any x.kind x.wd x.len y.kind y.wd y.len s1 s2 (normz x.kind (x.pins.map (nmOf names))) (normz y.kind y.pins) w h h')
  have hml : (x.pins.map (nmOf names)).length = x.pins.length := List.length_map _
  generalize x.pins.map (nmOf names) = mx at *
  generalize normz x.kind mx = nx at *
  generalize normz y.kind y.pins = ny at *
  generalize devcmp x.kind y.kind nx ny x.wd y.wd x.len y.len = r at *
  generalize isoD names x y = q at *
  obtain ⟨k1, xs, d1, l1⟩ := x
  obtain ⟨k2, ys, d2, l2⟩ := y
  dsimp only at *
  obtain ⟨a, c, rfl⟩ := h.len
  obtain ⟨a', c', rfl⟩ := h'.len
  obtain ⟨an, cn, rfl⟩ := hn.len
  clear h h' hn hml hxn hxp
  go_enter Try.func85, Try.ntmps85
  go_wp2_with fail
  go_region_held3 ((fun w' => (Blk w' (w.heap.size) #[.int .i64 k1, .slice a xs.length c, .int .i64 d1, .int .i64 l1] 83 ∧ ∀ o, w'.cell? ⟨w.heap.size, o, none⟩ = (#[.int .i64 k1, .slice a xs.length c, .int .i64 d1, .int .i64 l1] : Array Value)[o]?) ∧ (Blk w' (w.heap.size + 1) #[.int .i64 k2, .slice a' ys.length c', .int .i64 d2, .int .i64 l2] 83 ∧ ∀ o, w'.cell? ⟨w.heap.size + 1, o, none⟩ = (#[.int .i64 k2, .slice a' ys.length c', .int .i64 d2, .int .i64 l2] : Array Value)[o]?) ∧ Below w.heap.size w w')) (((try (obtain ⟨⟨hS0, _⟩, ⟨hS1, _⟩, hSB⟩ := hHeld)); refine ⟨Blk.both ?_, Blk.both ?_, ?_⟩ <;> first | ((repeat (first | (with_reducible assumption) | (with_reducible refine Blk.drewN ?_ _) | (with_reducible refine Blk.drew ?_) | ((with_reducible refine Blk.new _ ?_); focus (first | omega | (simp; done) | (simp; omega))) | (with_reducible refine Blk.past ?_ _) | ((with_reducible refine Blk.apart ?_ _ _ _ ?_); rotate_left; focus (first | omega | (simp; done) | (simp; omega))) | (with_reducible refine Blk.by (by assumption) ?_))); done) | ((repeat (first | (with_reducible exact Below.refl _ _) | (with_reducible refine below_drewN ?_ _) | (with_reducible refine Below.drew ?_) | (with_reducible refine below_al ?_ _) | (with_reducible refine below_on (by assumption) ?_) | ((with_reducible refine Below.setCell ?_ ?_ _); rotate_left; focus (first | omega | (simp; done) | (simp; omega))) | (with_reducible assumption))); done)))
    (first | (go_at_call 134; refine (HM.out _ (HX.out.by (by ((repeat (first | (with_reducible exact Below.refl _ _) | (with_reducible refine below_drewN ?_ _) | (with_reducible refine Below.drew ?_) | (with_reducible refine below_al ?_ _) | (with_reducible refine below_on (by assumption) ?_) | ((with_reducible refine Below.setCell ?_ ?_ _); rotate_left; focus (first | omega | (simp; done) | (simp; omega))) | (with_reducible assumption))); done))) (HN.out.by (by ((repeat (first | (with_reducible exact Below.refl _ _) | (with_reducible refine below_drewN ?_ _) | (with_reducible refine Below.drew ?_) | (with_reducible refine below_al ?_ _) | (with_reducible refine below_on (by assumption) ?_) | ((with_reducible refine Below.setCell ?_ ?_ _); rotate_left; focus (first | omega | (simp; done) | (simp; omega))) | (with_reducible assumption))); done)))).mono ?_; rintro e w1 ⟨v1, rfl, hO1, hb1⟩; have HO1 := Lib.hid hO1; obtain ⟨a1, c1, rfl⟩ := hO1.len; clear hO1) | (go_at_call_of 119 (Value.slice a1 mx.length c1); refine (HN1.out _ _ HO1.out).mono ?_; rintro e w2 ⟨v2, rfl, hO2, hb2⟩; have HO2 := Lib.hid hO2.sl; obtain ⟨a2, c2, rfl⟩ := hO2.len; clear hO2) | (go_at_call_of 119 (Value.slice a' ys.length c'); refine (HN2.out _ (HY.out.by (by ((repeat (first | (with_reducible exact Below.refl _ _) | (with_reducible refine below_drewN ?_ _) | (with_reducible refine Below.drew ?_) | (with_reducible refine below_al ?_ _) | (with_reducible refine below_on (by assumption) ?_) | ((with_reducible refine Below.setCell ?_ ?_ _); rotate_left; focus (first | omega | (simp; done) | (simp; omega))) | (with_reducible assumption))); done)))).mono ?_; rintro e w3 ⟨v3, rfl, hO3, hb3⟩; have HO3 := Lib.hid hO3.sl; obtain ⟨a3, c3, rfl⟩ := hO3.len; clear hO3) | (go_at_call 112; refine (HC.out _ _ _ (HO2.out.by hb3) HO3.out).mono ?_; rintro e w4 ⟨rfl, hb4⟩))
  go_wp2
  go_ret
  exact ⟨ret_bool (by rw [HB.out, Bool.eq_iff_iff]; simp), (by ((repeat (first | (with_reducible exact Below.refl _ _) | (with_reducible refine below_drewN ?_ _) | (with_reducible refine Below.drew ?_) | (with_reducible refine below_al ?_ _) | (with_reducible refine below_on (by assumption) ?_) | ((with_reducible refine Below.setCell ?_ ?_ _); rotate_left; focus (first | omega | (simp; done) | (simp; omega))) | (with_reducible assumption))); done))⟩

end Go.Proofs.Ytaiadcfgmichpaa
