/- The program's renamed: a copy, its pins and ports renamed in place. -/
import Derived.Test.YtaiadcfgmichpaaOwnSet
import Derived.Test.YtaiadcfgmichpaaCopyNl
import Derived.BigRegion
namespace Go.Proofs.Ytaiadcfgmichpaa
open Go.RowKit
set_option linter.unusedVariables false
set_option linter.unusedSimpArgs false

set_option maxRecDepth 100000 in
set_option maxHeartbeats 8000000 in
theorem implRen_any (x : Nl) (names : List Int) (sn : Value) (nets2 : Int) (v : Value) (w : World) (h : NlV w v x) (hn : IntSl w sn names) (hl : x.ds.length ≤ 24) (hpl : x.ps.length ≤ 8)
    (hpn : ∀ d ∈ x.ds, d.pins.length ≤ 3 ∧ d.pins ≠ [] ∧ ∀ p ∈ d.pins, 0 ≤ p ∧ p < names.length) (hpp : ∀ p ∈ x.ps, 0 ≤ p.net ∧ p.net < names.length) :
    Calls Try.prog 83 #[v, sn, .int .i64 nets2] w fun e w' => ∃ v', e = .returned v' ∧ OwnNl w' w.heap.size w'.heap.size v' (renS x names nets2) ∧ Below w.heap.size w w' := by
  have HCP := Lib.hid (fun v w h => copyNetlist_any x v w h (by omega) (by omega) (fun d hd => ⟨by have := (hpn d hd).1; omega, (hpn d hd).2.1⟩))
  have HV := Lib.hid h
  obtain ⟨a, c, a', c', rfl⟩ := h.sized
  obtain ⟨nets, ds, ps⟩ := x
  dsimp only at HCP HV hl hpl hpn hpp ⊢
  have HN := Lib.hid hn
  have HPN := Lib.hid hpn
  have HPP := Lib.hid hpp
  have HST := Lib.hid (upTo_step (renD names) ds)
  have HGT := Lib.hid (upTo_get (renD names) ds)
  have HLU := Lib.hid (length_upTo (renD names) ds)
  have HST2 := Lib.hid (upTo_step (renP names) ps)
  have HGT2 := Lib.hid (upTo_get (renP names) ps)
  have HLU2 := Lib.hid (length_upTo (renP names) ps)
  obtain ⟨an, cn, rfl⟩ := hn.len
  clear h hn hpn hpp
  go_enter Try.func83, Try.ntmps83
  go_wp2_with fail
  refine (HCP.out _ _ (HV.out.by (by ((repeat (first | (with_reducible exact Below.refl _ _) | (with_reducible refine below_drewN ?_ _) | (with_reducible refine Below.drew ?_) | (with_reducible refine below_al ?_ _) | (with_reducible refine below_on (by assumption) ?_) | ((with_reducible refine Below.setCell ?_ ?_ _); rotate_left; focus (first | omega | (simp; done) | (simp; omega))) | (with_reducible assumption))); done)))).mono ?_
  rintro e w2 ⟨v2, rfl, hO, hb2⟩
  obtain ⟨s1, s2, lo1, hi1, lo2, hi2, rfl, hOD, hOP, hi1', hi2', hap⟩ := hO
  have kR : Blk w2 (w.heap.size + 1) #[.int .i64 0, .slice none 0 0, .slice none 0 0] 35 := (by ((repeat (first | (with_reducible assumption) | (with_reducible refine Blk.drewN ?_ _) | (with_reducible refine Blk.drew ?_) | ((with_reducible refine Blk.new _ ?_); focus (first | omega | (simp; done) | (simp; omega))) | (with_reducible refine Blk.past ?_ _) | ((with_reducible refine Blk.apart ?_ _ _ _ ?_); rotate_left; focus (first | omega | (simp; done) | (simp; omega))) | (with_reducible refine Blk.by (by assumption) ?_))); done))
  have hB2 : Below w.heap.size w w2 := (by ((repeat (first | (with_reducible exact Below.refl _ _) | (with_reducible refine below_drewN ?_ _) | (with_reducible refine Below.drew ?_) | (with_reducible refine below_al ?_ _) | (with_reducible refine below_on (by assumption) ?_) | ((with_reducible refine Below.setCell ?_ ?_ _); rotate_left; focus (first | omega | (simp; done) | (simp; omega))) | (with_reducible assumption))); done))
  have hsz2 := hb2.size
  have lR := kR.lt
  obtain ⟨a1, c1, rfl⟩ := hOD.sl.sized
  obtain ⟨a2, c2, rfl⟩ := hOP.sl.sized
  dsimp only at hOD hOP
  have HOD := Lib.hid hOD
  have HOP := Lib.hid hOP
  simp only [World.size_alloc] at hsz2 hi1' hi2'
  clear hb2 hOD hOP HV HCP
  obtain ⟨P, hP⟩ : ∃ P, w2.heap.size = P := ⟨_, rfl⟩
  have hPl : w.heap.size + 1 < P := by omega
  have HP := Lib.hid hP
  have hi1P : hi1 ≤ P := by omega
  have hi2P : hi2 ≤ P := by omega
  clear hP
  go_wp2
  rw [HP.out]
  go_loopw [21] (fun i wr => ∃ k : Nat, k ≤ ds.length ∧ i = .int .i64 k ∧ Blk wr P #[.int .i64 nets2, .slice a1 ds.length c1, .slice a2 ps.length c2] 35 ∧ Blk wr (w.heap.size + 1) #[.int .i64 0, .slice none 0 0, .slice none 0 0] 35 ∧
    Hid (OwnDs wr lo1 hi1 (.slice a1 ds.length c1) (upTo (renD names) ds k)) ∧ Hid (OwnPs wr lo2 hi2 (.slice a2 ps.length c2) ps) ∧ Below w.heap.size w wr) (fun i _ => ds.length - (intOf i).toNat)
  case atStart =>
    refine ⟨0, Nat.zero_le _, rfl, Blk.new _ HP.out.symm, (by ((repeat (first | (with_reducible assumption) | (with_reducible refine Blk.drewN ?_ _) | (with_reducible refine Blk.drew ?_) | ((with_reducible refine Blk.new _ ?_); focus (first | omega | (simp; done) | (simp; omega))) | (with_reducible refine Blk.past ?_ _) | ((with_reducible refine Blk.apart ?_ _ _ _ ?_); rotate_left; focus (first | omega | (simp; done) | (simp; omega))) | (with_reducible refine Blk.by (by assumption) ?_))); done)), Lib.hid ?_, Lib.hid (HOP.out.by ((Below.refl _ w2).alloc (Nat.le_refl _) _)), (by ((repeat (first | (with_reducible exact Below.refl _ _) | (with_reducible refine below_drewN ?_ _) | (with_reducible refine Below.drew ?_) | (with_reducible refine below_al ?_ _) | (with_reducible refine below_on (by assumption) ?_) | ((with_reducible refine Below.setCell ?_ ?_ _); rotate_left; focus (first | omega | (simp; done) | (simp; omega))) | (with_reducible assumption))); done))⟩
    rw [upTo_zero]
    exact HOD.out.by ((Below.refl _ w2).alloc (Nat.le_refl _) _)
  case round =>
    obtain ⟨k, hk, rfl, kP, kR, HD, HPo, hb⟩ := hrel
    by_cases hlt : k < ds.length
    · obtain ⟨x, hx⟩ : ∃ x, ds[k]? = some x := ⟨ds[k], List.getElem?_eq_getElem hlt⟩
      obtain ⟨hxl, hxn, hxp⟩ := HPN.out x (List.mem_of_getElem? hx)
      obtain ⟨g, cap, cs, fb, pv, he, kG, ⟨d0, d1, d2, d3⟩, hOR, hfb, hg, hfg, _, hset⟩ := HD.out.setPins (HGT.out k x hx)
      rw [HLU.out] at he
      obtain ⟨rfl, rfl⟩ : a1 = some ⟨g, 0, none⟩ ∧ c1 = cap := by simpa using he
      obtain ⟨gb, capb, csb, rfl, hgb, hcb, hmb, kB, hIC0⟩ := hOR.cells hxn
      have hgf : gb = fb := by omega
      subst hgf
      have HX := Lib.hid hx
      have HXP := Lib.hid hxp
      have HSET := Lib.hid hset
      have HIC := Lib.hid (show ICs csb (renTo names x.pins 0) by rw [renTo_zero]; exact hIC0)
      have qG := kG.cell
      have lGb := kB.lt
      have lP := kP.lt
      have lRr := kR.lt
      have lG := kG.lt
      have i1 : (0 : Int) ≤ (k : Int) := by omega
      have i2 : (k : Int) < (ds.length : Int) := by omega
      obtain ⟨wo, hwo⟩ : ∃ x : World, x = wr := ⟨_, rfl⟩
      subst hwo
      clear hx hxp hset hIC0 he hOR
      go_wp2
      obtain ⟨D, hD⟩ : ∃ D, wo.heap.size = D := ⟨_, rfl⟩
      obtain ⟨wA, hwA⟩ : ∃ wA, wA = wo.alloc (.cells #[.int .i64 x.kind, .slice (some ⟨gb, 0, none⟩) x.pins.length capb, .int .i64 x.wd, .int .i64 x.len] 83) := ⟨_, rfl⟩
      have kD : Blk wA D #[.int .i64 x.kind, .slice (some ⟨gb, 0, none⟩) x.pins.length capb, .int .i64 x.wd, .int .i64 x.len] 83 := by rw [hwA]; exact Blk.new _ hD.symm
      have kBA : Blk wA gb csb 2 := by rw [hwA]; exact kB.past _
      have hbA : Below w.heap.size w wA := by rw [hwA]; exact below_al hb _
      have hWA : Within gb (gb + 1) wo wA := by rw [hwA]; exact (Within.refl _ _ _).alloc _
      have hgD : gb ≠ D := by omega
      rw [← hwA, hD]
      clear hwA hD
      go_loopw [28] (fun i wr2 => ∃ m : Nat, m ≤ x.pins.length ∧ i = .int .i64 m ∧ Blk wr2 D #[.int .i64 x.kind, .slice (some ⟨gb, 0, none⟩) x.pins.length capb, .int .i64 x.wd, .int .i64 x.len] 83 ∧ (∃ cs, Blk wr2 gb cs 2 ∧ Hid (ICs cs (renTo names x.pins m))) ∧ Within gb (gb + 1) wA wr2) (fun i _ => x.pins.length - (intOf i).toNat)
      case atStart => exact ⟨0, Nat.zero_le _, rfl, kD, ⟨csb, kBA, HIC⟩, Within.refl _ _ _⟩
      case round =>
        clear kD kBA HIC
        obtain ⟨m, hm, rfl, kD, ⟨cs2, kB2, HIC⟩, hW2⟩ := hrel
        have cD := kD.cell
        by_cases hlt2 : m < x.pins.length
        · obtain ⟨z, hz⟩ : ∃ z, x.pins[m]? = some z := ⟨x.pins[m], List.getElem?_eq_getElem hlt2⟩
          obtain ⟨hz0, hz1⟩ := HXP.out z (List.mem_of_getElem? hz)
          have cB := kB2.cell
          have fB := kB2.free
          have cz := HIC.out m z (renTo_get names x.pins m z hz)
          have hNw := HN.out.by (hW2.below hbA (by omega))
          obtain ⟨q, rfl⟩ : ∃ q : Nat, z = q := ⟨z.toNat, by omega⟩
          rcases hNw with ⟨_, _, _, h2⟩ | ⟨nb, noff, ncap, hen, _, _, hcn⟩
          · rw [h2] at hz1; simp at hz1; omega
          obtain ⟨rfl, rfl⟩ : an = some ⟨nb, noff, none⟩ ∧ cn = ncap := by simpa using hen
          have hq : q < names.length := by omega
          have cnm := hcn q names[q] (List.getElem?_eq_getElem hq)
          have hnm : nmOf names (q : Int) = names[q] := by simp [nmOf, hq]
          have HZ := Lib.hid hz
          have HNM := Lib.hid hnm
          generalize names[q] = y at *
          have j1 : (0 : Int) ≤ (m : Int) := by omega
          have j2 : (m : Int) < (x.pins.length : Int) := by omega
          clear hz hnm hen hcn hq
          go_wp2_with fail
          go_region
          all_goals go_wp2_with fail
          exact ⟨⟨m + 1, by omega, by go_num, (kD.apart gb m _ (by omega)).drew, ⟨cs2.setIfInBounds m (.int .i64 y), (kB2.set m _).drew, Lib.hid (by rw [← renTo_step names x.pins m q HZ.out, HNM.out]; exact HIC.out.set m y)⟩, (hW2.set gb m _ (Nat.le_refl _) (by omega)).drewN 1⟩, by simp [intOf]; omega⟩
        · obtain rfl : m = x.pins.length := by omega
          have hIC1 : ICs cs2 (x.pins.map (nmOf names)) := by have := HIC.out; rwa [renTo_all] at this
          have hW := hWA.on hW2
          have hR1 := hIC1.own kB2 (by rw [List.length_map]; exact hcb) hmb
          rw [List.length_map] at hR1
          have HD1 := Lib.hid (HSET.out wr (x.pins.map (nmOf names)) (List.length_map _) hW hR1)
          have HP1 := Lib.hid (HPo.out.past hW (by omega))
          have kP1 := hW.blk kP (by omega)
          have kR1 := hW.blk kR (by omega)
          have hb1 := hW.below hb (by omega)
          clear hIC1 hR1 hW
          go_wp2
          refine ⟨⟨k + 1, by omega, by go_num, kP1, kR1, Lib.hid ?_, HP1, hb1⟩, by simp [intOf]; omega⟩
          rw [← HST.out k x HX.out]
          exact HD1.out
    · obtain rfl : k = ds.length := by omega
      have hDa := HD.out
      rw [upTo_all] at hDa
      have HDA := Lib.hid hDa
      have qP := kP.cell
      obtain ⟨wo, hwo⟩ : ∃ x : World, x = wr := ⟨_, rfl⟩
      subst hwo
      clear hDa HD
      go_wp2
      clear qP
      go_loopw [46] (fun i wx => ∃ j : Nat, j ≤ ps.length ∧ i = .int .i64 j ∧ Blk wx P #[.int .i64 nets2, .slice a1 ds.length c1, .slice a2 ps.length c2] 35 ∧ Blk wx (w.heap.size + 1) #[.int .i64 0, .slice none 0 0, .slice none 0 0] 35 ∧
        Hid (OwnDs wx lo1 hi1 (.slice a1 ds.length c1) (ds.map (renD names))) ∧ Hid (OwnPs wx lo2 hi2 (.slice a2 ps.length c2) (upTo (renP names) ps j)) ∧ Below w.heap.size w wx) (fun i _ => ps.length - (intOf i).toNat)
      case atStart => exact ⟨0, Nat.zero_le _, rfl, kP, kR, HDA, Lib.hid (by rw [upTo_zero]; exact HPo.out), hb⟩
      case round =>
        clear kP kR HDA HPo hb
        obtain ⟨j, hj, rfl, kP, kR, HDA, HPo, hb⟩ := hrel
        by_cases hlt2 : j < ps.length
        · obtain ⟨x, hx⟩ : ∃ x, ps[j]? = some x := ⟨ps[j], List.getElem?_eq_getElem hlt2⟩
          obtain ⟨hx0, hx1⟩ := HPP.out x (List.mem_of_getElem? hx)
          obtain ⟨g2, cap2, cs2, he, kG, ⟨d0, d1⟩, hg, _, hset⟩ := HPo.out.setNet (HGT2.out j x hx)
          rw [HLU2.out] at he
          obtain ⟨rfl, rfl⟩ : a2 = some ⟨g2, 0, none⟩ ∧ c2 = cap2 := by simpa using he
          obtain ⟨q, hq⟩ : ∃ q : Nat, x.net = q := ⟨x.net.toNat, by omega⟩
          rcases HN.out.by hb with ⟨_, _, _, e2⟩ | ⟨nb, noff, ncap, hen, _, _, hcn⟩
          · rw [e2] at hx1; simp at hx1; omega
          obtain ⟨rfl, rfl⟩ : an = some ⟨nb, noff, none⟩ ∧ cn = ncap := by simpa using hen
          have hql : q < names.length := by omega
          have cnm := hcn q names[q] (List.getElem?_eq_getElem hql)
          have hren : renP names x = ⟨x.name, names[q]⟩ := by simp [renP, nmOf, hq, hql]
          rw [hq] at d1
          have lNm := lt_of_cell cnm
          dsimp only at lNm
          generalize names[q] = y at *
          have HX := Lib.hid hx
          have HRE := Lib.hid hren
          have HSET := Lib.hid (fun w' hB => hset w' y hB)
          have j1 : (0 : Int) ≤ (j : Int) := by omega
          have j2 : (j : Int) < (ps.length : Int) := by omega
          have k1 : (0 : Int) ≤ (q : Int) := by omega
          have k2 : (q : Int) < (names.length : Int) := by omega
          have qG := kG.cell
          have fG := kG.free
          have lG := kG.lt
          have qP := kP.cell
          have lP := kP.lt
          have lRr := kR.lt
          obtain ⟨nm, hnm⟩ : ∃ nm, x.name = nm := ⟨_, rfl⟩
          rw [hnm] at d0
          clear hx hq hen hcn hren hnm hset he hx0 hx1
          go_wp2_with fail
          go_region
          all_goals go_wp2_with fail
          have hW1 : Within g2 (g2 + 1) wr (wr.setCell ⟨g2, j * 2 + 1, none⟩ (.int .i64 y)) := Within.off _
          have hb' : Below (wr.setCell ⟨g2, j * 2 + 1, none⟩ (.int .i64 y)).heap.size (wr.setCell ⟨g2, j * 2 + 1, none⟩ (.int .i64 y)) ((wr.setCell ⟨g2, j * 2 + 1, none⟩ (.int .i64 y)).alloc (.cells #[.string nm, .int .i64 q] 99)).drew := ((Below.refl _ _).alloc (Nat.le_refl _) _).drew
          refine ⟨⟨j + 1, by omega, by go_num, Blk.by hb' (hW1.blk kP (by omega)), Blk.by hb' (hW1.blk kR (by omega)), Lib.hid ((HDA.out.past hW1 (by omega)).by hb'), Lib.hid ?_, (hW1.below hb (by omega)).trans (hb'.mono (by simp; omega))⟩, by simp [intOf]; omega⟩
          rw [← HST2.out j x HX.out, HRE.out]
          exact (HSET.out _ (kG.set _ _)).by hb'
        · obtain rfl : j = ps.length := by omega
          have hPa := HPo.out
          rw [upTo_all] at hPa
          have HPA := Lib.hid hPa
          have qP := kP.cell
          have qR := kR.cell
          have fR := kR.free
          have lRr := kR.lt
          have hbs := kP.lt
          clear hPa HPo
          go_wp2
          refine bodyPost_ret (v := .agg #[.int .i64 nets2, .slice a1 ds.length c1, .slice a2 ps.length c2]) (by simp [results, Try.results83, go_sem, *]) rfl ⟨_, rfl, ⟨_, _, lo1, hi1, lo2, hi2, rfl, ?_, ?_, ⟨by omega, by simp; omega⟩, ⟨by omega, by simp; omega⟩, hap⟩, ?_⟩
          · exact ((HDA.out.past (Within.off _) (by omega)).past (Within.off _) (by omega)).past (Within.off _) (by omega)
          · exact ((HPA.out.past (Within.off _) (by omega)).past (Within.off _) (by omega)).past (Within.off _) (by omega)
          · repeat (first | (with_reducible exact hb) | ((with_reducible refine Below.setCell ?_ ?_ _); rotate_left; focus (simp; try omega)))
end Go.Proofs.Ytaiadcfgmichpaa
