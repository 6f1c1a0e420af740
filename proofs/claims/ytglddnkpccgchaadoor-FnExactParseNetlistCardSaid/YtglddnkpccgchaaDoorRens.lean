/- The program's renamed: a copy, its pins and ports renamed in place. -/
import Derived.Test.YtglddnkpccgchaaDoorBldg
import Derived.Test.YtglddnkpccgchaaDoorCopies
import Derived.BigRegion
import Derived.Test.YtglddnkpccgchaaDoorBase
import Derived.Test.YtglddnkpccgchaaDoorOrdB
import Derived.Test.YtglddnkpccgchaaDoorSpecNl
import Derived.Test.YtglddnkpccgchaaDoorImplNl
import Derived.Test.YtglddnkpccgchaaDoorSerB
namespace Go.Proofs.YtglddnkpccgchaaDoor
open Go.RowKit
set_option linter.unusedVariables false
set_option linter.unusedSimpArgs false

end Go.Proofs.YtglddnkpccgchaaDoor

/- The reference's l27Rename. -/
namespace Go.Proofs.YtglddnkpccgchaaDoor
open Go.RowKit
set_option linter.unusedVariables false
set_option linter.unusedSimpArgs false

set_option maxRecDepth 100000 in
set_option maxHeartbeats 8000000 in
theorem specRen_any (x : Nl) (names : List Int) (sn : Value) (nets2 : Int) (v : Value) (w : World) (h : NlV w v x) (hn : IntSl w sn names) (hl : x.ds.length ≤ 24) (hpl : x.ps.length ≤ 8)
    (hpn : ∀ d ∈ x.ds, d.pins.length ≤ 3 ∧ d.pins ≠ [] ∧ ∀ p ∈ d.pins, 0 ≤ p ∧ p < names.length) (hpp : ∀ p ∈ x.ps, 0 ≤ p.net ∧ p.net < names.length) :
    Calls Tryd.prog 34 #[v, .int .i64 nets2, sn] w fun e w' => ∃ v', e = .returned v' ∧ OwnNl w' w.heap.size w'.heap.size v' (renS x names nets2) ∧ Below w.heap.size w w' := by
  obtain ⟨s1, s2, rfl, hd, hp⟩ := h
  obtain ⟨nets, ds, ps⟩ := x
  dsimp only at hd hp hl hpl hpn hpp ⊢
  have HD := Lib.hid hd
  have HP := Lib.hid hp
  have HN := Lib.hid hn
  have HPN := Lib.hid hpn
  have HPP := Lib.hid hpp
  obtain ⟨a1, c1, rfl⟩ := hd.sized
  obtain ⟨a2, c2, rfl⟩ := hp.sized
  obtain ⟨an, cn, rfl⟩ := hn.len
  clear hd hp hn hpn hpp
  go_enter Tryd.func34, Tryd.ntmps34
  go_wp2
  go_loopw [8, 9, 10] (fun i _ _ wr => ∃ (k : Nat) (v : Value) (hi : Nat), k ≤ ds.length ∧ w.heap.size + 3 ≤ hi ∧ i = .int .i64 k ∧ Bld wr (w.heap.size + 3) hi v ((ds.take k).map (renD names)) ∧ Blk wr w.heap.size #[.int .i64 nets, .slice a1 ds.length c1, .slice a2 ps.length c2] 31 ∧ Blk wr (w.heap.size + 1) #[.int .i64 0, .slice none 0 0, .slice none 0 0] 31 ∧ Blk wr (w.heap.size + 1 + 1) #[.int .i64 nets2, v, .slice none 0 0] 31 ∧ Below w.heap.size w wr) (fun i _ _ _ => ds.length - (intOf i).toNat)
  case atStart =>
    refine ⟨0, .slice none 0 0, w.heap.size + 3, Nat.zero_le _, Nat.le_refl _, rfl, ?_, (by ((repeat (first | (with_reducible assumption) | (with_reducible refine Blk.drewN ?_ _) | (with_reducible refine Blk.drew ?_) | ((with_reducible refine Blk.new _ ?_); focus (first | omega | (simp; done) | (simp; omega))) | (with_reducible refine Blk.past ?_ _) | ((with_reducible refine Blk.apart ?_ _ _ _ ?_); rotate_left; focus (first | omega | (simp; done) | (simp; omega))) | (with_reducible refine Blk.by (by assumption) ?_))); done)), (by ((repeat (first | (with_reducible assumption) | (with_reducible refine Blk.drewN ?_ _) | (with_reducible refine Blk.drew ?_) | ((with_reducible refine Blk.new _ ?_); focus (first | omega | (simp; done) | (simp; omega))) | (with_reducible refine Blk.past ?_ _) | ((with_reducible refine Blk.apart ?_ _ _ _ ?_); rotate_left; focus (first | omega | (simp; done) | (simp; omega))) | (with_reducible refine Blk.by (by assumption) ?_))); done)), (by ((repeat (first | (with_reducible assumption) | (with_reducible refine Blk.drewN ?_ _) | (with_reducible refine Blk.drew ?_) | ((with_reducible refine Blk.new _ ?_); focus (first | omega | (simp; done) | (simp; omega))) | (with_reducible refine Blk.past ?_ _) | ((with_reducible refine Blk.apart ?_ _ _ _ ?_); rotate_left; focus (first | omega | (simp; done) | (simp; omega))) | (with_reducible refine Blk.by (by assumption) ?_))); done)), (by ((repeat (first | (with_reducible exact Below.refl _ _) | (with_reducible refine below_drewN ?_ _) | (with_reducible refine Below.drew ?_) | (with_reducible refine below_al ?_ _) | (with_reducible refine below_on (by assumption) ?_) | ((with_reducible refine Below.setCell ?_ ?_ _); rotate_left; focus (first | omega | (simp; done) | (simp; omega))) | (with_reducible assumption))); done))⟩
    have hnil := Bld.nil (((w.alloc (.cells #[.int .i64 nets, .slice a1 ds.length c1, .slice a2 ps.length c2] 31)).alloc (.cells #[.int .i64 0, .slice none 0 0, .slice none 0 0] 31)).alloc (.cells #[.int .i64 nets2, .slice none 0 0, .slice none 0 0] 31)) (w.heap.size + 3)
    simpa using hnil
  case round =>
    obtain ⟨k, v, hi, hk, hBhi, rfl, hBl, kN, kZ, kP, hb⟩ := hrel
    have hml : ((ds.take k).map (renD names)).length = k := by rw [List.length_map, List.length_take]; omega
    obtain ⟨av, cv, rfl⟩ := hBl.sized
    have hhi := hBl.1
    rw [hml] at hBl kP
    have HBL := Lib.hid hBl
    have HML := Lib.hid hml
    clear hBl hml
    by_cases hlt : k < ds.length
    · obtain ⟨x, hx⟩ : ∃ x, ds[k]? = some x := ⟨ds[k], List.getElem?_eq_getElem hlt⟩
      have HDS := HD.out
      rcases HDS with ⟨_, _, _, h2⟩ | ⟨b, off, cap, he, h2, h3, h4⟩
      · rw [h2] at hlt; simp at hlt
      obtain ⟨rfl, rfl⟩ : a1 = some ⟨b, off, none⟩ ∧ c1 = cap := by simpa using he
      obtain ⟨hxl, hxn, hxp⟩ := HPN.out x (List.mem_of_getElem? hx)
      obtain ⟨sx, d1, d2, d3, d4, hSx⟩ := (h4 k x hx).by hb
      have HCD := Lib.hid (fun w h => own_any x.kind x.wd x.len sx x.pins w h (by omega))
      have HSX := Lib.hid hSx
      have HX := Lib.hid hx
      have HXN := Lib.hid hxn
      have HXP := Lib.hid hxp
      obtain ⟨ax, cx, rfl⟩ := hSx.len
      have i1 : (0 : Int) ≤ (k : Int) := by omega
      have i2 : (k : Int) < (ds.length : Int) := by omega
      have cN := kN.cell
      clear h4 hx hxn hxp he hSx
      go_wp2_with fail
      refine (HCD.out _ (HSX.out.by (by ((repeat (first | (with_reducible exact Below.refl _ _) | (with_reducible refine below_drewN ?_ _) | (with_reducible refine Below.drew ?_) | (with_reducible refine below_al ?_ _) | (with_reducible refine below_on (by assumption) ?_) | ((with_reducible refine Below.setCell ?_ ?_ _); rotate_left; focus (first | omega | (simp; done) | (simp; omega))) | (with_reducible assumption))); done)))).mono ?_
      rintro e w1 ⟨v1, rfl, hOI, hb1⟩
      obtain ⟨fb, hf1, hf2, hOR⟩ := hOI.pin HXN.out
      obtain ⟨gb, capb, csb, rfl, hgb, hcb, hmb, kB0, HIC0⟩ := hOR.cells HXN.out
      have hgf : gb = fb := by omega
      subst hgf
      replace kN := Blk.by hb1 kN
      replace kZ := Blk.by hb1 kZ
      replace kP := Blk.by hb1 kP
      replace hb := below_on hb1 hb
      have HB1 := Lib.hid (HBL.out.by hb1)
      have HICH := Lib.hid HIC0
      have hbs := hb1.size
      clear cN hb1 hOI hOR HIC0 HBL
      go_wp2
      have hIC : ICs csb (renTo names x.pins 0) := by rw [renTo_zero]; exact HICH.out
      obtain ⟨wA, hwA⟩ : ∃ wA, wA = w1.alloc (.cells #[.int .i64 x.kind, .slice (some ⟨gb, 0, none⟩) x.pins.length capb, .int .i64 x.wd, .int .i64 x.len] 52) := ⟨_, rfl⟩
      have kD : Blk wA w1.heap.size #[.int .i64 x.kind, .slice (some ⟨gb, 0, none⟩) x.pins.length capb, .int .i64 x.wd, .int .i64 x.len] 52 := by rw [hwA]; exact Blk.new _ rfl
      have kBA : Blk wA gb csb 2 := by rw [hwA]; exact kB0.past _
      have hbA : Below w.heap.size w wA := by rw [hwA]; exact below_al hb _
      have HWA := Lib.hid hwA
      rw [← hwA]
      clear hwA HICH
      go_loopw [10] (fun i wr2 => ∃ m : Nat, m ≤ x.pins.length ∧ i = .int .i64 m ∧ Blk wr2 w1.heap.size #[.int .i64 x.kind, .slice (some ⟨gb, 0, none⟩) x.pins.length capb, .int .i64 x.wd, .int .i64 x.len] 52 ∧ (∃ cs, Blk wr2 gb cs 2 ∧ Hid (ICs cs (renTo names x.pins m))) ∧ Within gb (gb + 1) wA wr2) (fun i _ => x.pins.length - (intOf i).toNat)
      case atStart => exact ⟨0, Nat.zero_le _, rfl, kD, ⟨csb, kBA, Lib.hid hIC⟩, Within.refl _ _ _⟩
      case round =>
        clear kD kBA hIC
        obtain ⟨m, hm, rfl, kD, ⟨cs, kB, HIC⟩, hW2⟩ := hrel
        have cD := kD.cell
        by_cases hlt2 : m < x.pins.length
        · obtain ⟨z, hz⟩ : ∃ z, x.pins[m]? = some z := ⟨x.pins[m], List.getElem?_eq_getElem hlt2⟩
          obtain ⟨hz0, hz1⟩ := HXP.out z (List.mem_of_getElem? hz)
          have cB := kB.cell
          have fB := kB.free
          have cz := HIC.out m z (renTo_get names x.pins m z hz)
          have hNw := HN.out.by (hW2.below hbA (by omega))
          obtain ⟨q, rfl⟩ : ∃ q : Nat, z = q := ⟨z.toNat, by omega⟩
          rcases hNw with ⟨_, _, _, h2⟩ | ⟨nb, noff, ncap, hen, _, _, hcn⟩
          · rw [h2] at hz1; simp at hz1; omega
          obtain ⟨rfl, rfl⟩ : an = some ⟨nb, noff, none⟩ ∧ cn = ncap := by simpa using hen
          have hq : q < names.length := by omega
          have cn := hcn q names[q] (List.getElem?_eq_getElem hq)
          have hnm : nmOf names (q : Int) = names[q] := by simp [nmOf, hq]
          have HZ := Lib.hid hz
          have HNM := Lib.hid hnm
          generalize names[q] = y at *
          have j1 : (0 : Int) ≤ (m : Int) := by omega
          have j2 : (m : Int) < (x.pins.length : Int) := by omega
          clear hz hnm hen hcn hq
          go_wp2_with fail
          go_region
          all_goals go_wp2_with fail
          exact ⟨⟨m + 1, by omega, by go_num, (kD.apart gb m _ (by omega)).drew, ⟨cs.setIfInBounds m (.int .i64 y), (kB.set m _).drew, Lib.hid (by rw [← renTo_step names x.pins m q HZ.out, HNM.out]; exact HIC.out.set m y)⟩, (hW2.set gb m _ (Nat.le_refl _) (by omega)).drewN 1⟩, by simp [intOf]; omega⟩
        · obtain rfl : m = x.pins.length := by omega
          have hwA := HWA.out
          have hIC1 : ICs cs (x.pins.map (nmOf names)) := by have := HIC.out; rwa [renTo_all] at this
          have hOR0 := hIC1.own kB (by rw [List.length_map]; exact hcb) hmb
          rw [List.length_map] at hOR0
          have hOR1 : OwnR wr gb (gb + 1) (.slice (some ⟨gb, 0, none⟩) x.pins.length capb) (renD names x).pins := hOR0
          have sA : wA.heap.size = w1.heap.size + 1 := by rw [hwA]; simp
          have sz2 := hW2.size
          have kP2 := hW2.blk (show Blk wA (w.heap.size + 1 + 1) #[.int .i64 nets2, .slice av k cv, .slice none 0 0] 31 by rw [hwA]; exact kP.past _) (by omega)
          have kZ2 := hW2.blk (show Blk wA (w.heap.size + 1) #[.int .i64 0, .slice none 0 0, .slice none 0 0] 31 by rw [hwA]; exact kZ.past _) (by omega)
          have kN2 := hW2.blk (show Blk wA w.heap.size #[.int .i64 nets, .slice (some ⟨b, off, none⟩) ds.length c1, .slice a2 ps.length c2] 31 by rw [hwA]; exact kN.past _) (by omega)
          have hB2 : Bld wr (w.heap.size + 3) hi (.slice av k cv) ((ds.take k).map (renD names)) := Bld.past hW2 (show Bld wA (w.heap.size + 3) hi (.slice av k cv) ((ds.take k).map (renD names)) by rw [hwA]; exact HB1.out.by ((Below.refl _ w1).alloc (Nat.le_refl _) _)) (by omega)
          have hb2 := hW2.below hbA (by omega)
          have HB2 := Lib.hid hB2
          have HOR1 := Lib.hid hOR1
          have hgl : gb < wr.heap.size := kB.lt
          have HLM := Lib.hid (show ((ds.take k).map (renD names)).length ≤ 1000 by rw [HML.out]; omega)
          have hile : hi ≤ gb := by omega
          have qP := kP2.cell
          have lP := kP2.lt
          have fP := kP2.free
          have qD := kD.cell
          clear hwA hIC1 hOR0 hOR1 sA hB2 HWA HIC cD
          go_wp2_with (at_builtin; (refine list_push (by rfl) _ _ (by rfl) (w.heap.size + 3) hi (.slice av k cv) ((ds.take k).map (renD names)) (by rfl) (HB2.out.by (by ((repeat (first | (with_reducible exact Below.refl _ _) | (with_reducible refine below_drewN ?_ _) | (with_reducible refine Below.drew ?_) | (with_reducible refine below_al ?_ _) | (with_reducible refine below_on (by assumption) ?_) | ((with_reducible refine Below.setCell ?_ ?_ _); rotate_left; focus (first | omega | (simp; done) | (simp; omega))) | (with_reducible assumption))); done))) wr.heap.size ⟨x.kind, x.pins.map (nmOf names), x.wd, x.len⟩ (.slice (some ⟨gb, 0, none⟩) x.pins.length capb) gb (by rfl) (Blk.new _ rfl) (OwnR.by ((Below.refl _ wr).alloc (Nat.le_refl _) _) HOR1.out) (by omega) hile (by simp; omega) HLM.out ?_; intro a' c' w3 hBl3 hw3; rw [HML.out] at hBl3 ⊢; have HBL3 := Lib.hid hBl3; have kP3 := hw3.blk (kP2.past (.cells #[.int .i64 x.kind, .slice (some ⟨gb, 0, none⟩) x.pins.length capb, .int .i64 x.wd, .int .i64 x.len] 52)) (by omega); have cP3 := kP3.cell; have fP3 := kP3.free; have lP3 := kP3.lt; clear hBl3))
          have hsz3 := hw3.size
          simp only [World.size_alloc] at hsz3
          have hW4 : Within (w.heap.size + 1 + 1) (w.heap.size + 1 + 1 + 1) w3 (w3.setCell ⟨w.heap.size + 1 + 1, 1, none⟩ (.slice a' (k + 1) c')) := Within.off _
          have kN3 := hw3.blk (kN2.past (.cells #[.int .i64 x.kind, .slice (some ⟨gb, 0, none⟩) x.pins.length capb, .int .i64 x.wd, .int .i64 x.len] 52)) (by omega)
          have kZ3 := hw3.blk (kZ2.past (.cells #[.int .i64 x.kind, .slice (some ⟨gb, 0, none⟩) x.pins.length capb, .int .i64 x.wd, .int .i64 x.len] 52)) (by omega)
          have hb3 := hw3.below (below_al hb2 _) (by omega)
          refine ⟨⟨k + 1, .slice a' (k + 1) c', w3.heap.size, by omega, by omega, by go_num, ?_, kN3.apart _ 1 _ (by omega), kZ3.apart _ 1 _ (by omega), kP3.set 1 _, hb3.setCell (by simp; omega) _⟩, by simp [intOf]; omega⟩
          rw [take_map_snoc (renD names) ds k x HX.out]
          exact Bld.past hW4 HBL3.out (by omega)
    · obtain rfl : k = ds.length := by omega
      have hBD := HBL.out
      rw [List.take_length] at hBD
      obtain ⟨wo, hwo⟩ : ∃ x : World, x = wr := ⟨_, rfl⟩
      subst hwo
      obtain ⟨B, hB⟩ : ∃ B, B = wo.heap.size := ⟨_, rfl⟩
      have hBP := BldP.nil wo wo.heap.size
      rw [← hB] at hBP
      have HBD := Lib.hid hBD
      have hbs := hb.size
      have hiB : hi ≤ B := by omega
      have hPB : w.heap.size + 1 + 1 < B := by rw [hB]; exact kP.lt
      have HTK := Lib.hid (fun j x hx => take_map_snoc (renP names) ps j x hx)
      clear hBD hB HBL HML hhi
      have cN := kN.cell
      have qP := kP.cell
      go_wp2
      clear cN qP
      go_loopw [11] (fun i wx => ∃ (j h2 : Nat) (u : Value), j ≤ ps.length ∧ i = .int .i64 j ∧ BldP wx B h2 u ((ps.take j).map (renP names)) ∧ B ≤ h2 ∧ Blk wx w.heap.size #[.int .i64 nets, .slice a1 ds.length c1, .slice a2 ps.length c2] 31 ∧ Blk wx (w.heap.size + 1) #[.int .i64 0, .slice none 0 0, .slice none 0 0] 31 ∧ Blk wx (w.heap.size + 1 + 1) #[.int .i64 nets2, .slice av ds.length cv, u] 31 ∧ Hid (Bld wx (w.heap.size + 3) hi (.slice av ds.length cv) (ds.map (renD names))) ∧ Below w.heap.size w wx) (fun i _ => ps.length - (intOf i).toNat)
      case atStart => exact ⟨0, B, .slice none 0 0, Nat.zero_le _, rfl, hBP, Nat.le_refl _, kN, kZ, kP, HBD, hb⟩
      case round =>
        clear kN kZ kP HBD hb hBP
        obtain ⟨j, h2, u, hj, rfl, hBP, hh2, kN, kZ, kP, HBD, hb⟩ := hrel
        have hml : ((ps.take j).map (renP names)).length = j := by rw [List.length_map, List.length_take]; omega
        obtain ⟨au, cu, rfl⟩ := hBP.sized
        rw [hml] at hBP kP
        have HBP := Lib.hid hBP
        have HML := Lib.hid hml
        clear hBP hml
        by_cases hlt2 : j < ps.length
        · obtain ⟨x, hx⟩ : ∃ x, ps[j]? = some x := ⟨ps[j], List.getElem?_eq_getElem hlt2⟩
          obtain ⟨hx0, hx1⟩ := HPP.out x (List.mem_of_getElem? hx)
          rcases HP.out with ⟨_, _, _, e2⟩ | ⟨pb, poff, pcap, pe, p2, p3, p4⟩
          · rw [e2] at hlt2; simp at hlt2
          obtain ⟨rfl, rfl⟩ : a2 = some ⟨pb, poff, none⟩ ∧ c2 = pcap := by simpa using pe
          obtain ⟨d1, d2⟩ := p4 j x hx
          obtain ⟨q, hq⟩ : ∃ q : Nat, x.net = q := ⟨x.net.toNat, by omega⟩
          rcases HN.out with ⟨_, _, _, e2⟩ | ⟨nb, noff, ncap, hen, _, _, hcn⟩
          · rw [e2] at hx1; simp at hx1; omega
          obtain ⟨rfl, rfl⟩ : an = some ⟨nb, noff, none⟩ ∧ cn = ncap := by simpa using hen
          have hql : q < names.length := by omega
          have cn := hcn q names[q] (List.getElem?_eq_getElem hql)
          have hren : renP names x = ⟨x.name, names[q]⟩ := by simp [renP, nmOf, hq, hql]
          rw [hq] at d2
          generalize names[q] = y at *
          have HX := Lib.hid hx
          have HRE := Lib.hid hren
          have HLM := Lib.hid (show ((ps.take j).map (renP names)).length ≤ 1000 by rw [HML.out]; omega)
          obtain ⟨nm, hnm⟩ : ∃ nm, x.name = nm := ⟨_, rfl⟩
          rw [hnm] at d1 hren
          have HNM := Lib.hid hren
          have j1 : (0 : Int) ≤ (j : Int) := by omega
          have j2 : (j : Int) < (ps.length : Int) := by omega
          have k1 : (0 : Int) ≤ (q : Int) := by omega
          have k2 : (q : Int) < (names.length : Int) := by omega
          clear hx p4 pe hq hen hcn hren hnm hx0 hx1 p2 p3
          have qN := kN.both
          have e1 := cell_by' hb d1
          have e2 := cell_by' hb d2
          have e3 := cell_by' hb cn
          have cP := kP.cell 2
          have lP := kP.lt
          have lN := kN.lt
          have cP1 : wr.cell? ⟨w.heap.size + 1 + 1, 2, none⟩ = some (.slice au j cu) := cP
          clear cP
          go_wp2_with fail
          refine wp_region_any (by kernel_rfl) (wpAny_of_E (S := fun w' => (∀ o, w'.cell? ⟨w.heap.size, o, none⟩ = (#[.int .i64 nets, .slice a1 ds.length c1, .slice (some ⟨pb, poff, none⟩) ps.length c2] : Array Value)[o]?) ∧ w'.cell? ⟨w.heap.size + 1 + 1, 2, none⟩ = some (.slice au j cu) ∧ w'.cell? ⟨pb, poff + j * 2, none⟩ = some (.string nm) ∧ w'.cell? ⟨pb, poff + j * 2 + 1, none⟩ = some (.int .i64 q) ∧ w'.cell? ⟨nb, noff + q, none⟩ = some (.int .i64 y)) (l := 21) _ _ _ _ ?_)
          have hS : (fun w' : World => (∀ o, w'.cell? ⟨w.heap.size, o, none⟩ = (#[.int .i64 nets, .slice a1 ds.length c1, .slice (some ⟨pb, poff, none⟩) ps.length c2] : Array Value)[o]?) ∧ w'.cell? ⟨w.heap.size + 1 + 1, 2, none⟩ = some (.slice au j cu) ∧ w'.cell? ⟨pb, poff + j * 2, none⟩ = some (.string nm) ∧ w'.cell? ⟨pb, poff + j * 2 + 1, none⟩ = some (.int .i64 q) ∧ w'.cell? ⟨nb, noff + q, none⟩ = some (.int .i64 y)) { wr with drawn := wr.drawn + 1 } := ⟨kN.cell, cP1, e1, e2, e3⟩
          change wpAnyE _ _ _ _ _ _ _ _ _ wr.drew
          refine wpAnyE_take (i := 0) (v := ?_) rfl (by kernel_rfl) (fun _ _ _ h => h) (Or.inl ⟨by rfl, ?_⟩) hS ?_
          rotate_left
          · intro w hSw; (try dsimp only at hSw); go_simp; (try with_reducible rfl)
          try simp only [Act.put, List.setIfInBounds_toArray, List.set_cons_zero, List.set_cons_succ]
          refine wpAnyE_take (i := 1) (v := ?_) rfl (by kernel_rfl) (fun _ _ _ h => h) (Or.inl ⟨by rfl, ?_⟩) hS ?_
          rotate_left
          · intro w hSw; (try dsimp only at hSw); go_simp; (try with_reducible rfl)
          try simp only [Act.put, List.setIfInBounds_toArray, List.set_cons_zero, List.set_cons_succ]
          refine wpAnyE_take (i := 2) (v := ?_) rfl (by kernel_rfl) (fun _ _ _ h => h) (Or.inl ⟨by rfl, ?_⟩) hS ?_
          rotate_left
          · intro w hSw; (try dsimp only at hSw); go_simp; (try with_reducible rfl)
          try simp only [Act.put, List.setIfInBounds_toArray, List.set_cons_zero, List.set_cons_succ]
          refine wpAnyE_take (i := 3) (v := ?_) rfl (by kernel_rfl) (fun _ _ _ h => h) (Or.inl ⟨by rfl, ?_⟩) hS ?_
          rotate_left
          · intro w hSw; (try dsimp only at hSw); go_simp; (try with_reducible rfl)
          try simp only [Act.put, List.setIfInBounds_toArray, List.set_cons_zero, List.set_cons_succ]
          refine wpAnyE_take (i := 4) (v := ?_) rfl (by kernel_rfl) (fun _ _ _ h => h) (Or.inl ⟨by rfl, ?_⟩) hS ?_
          rotate_left
          · intro w hSw; (try dsimp only at hSw); go_simp; (try with_reducible rfl)
          try simp only [Act.put, List.setIfInBounds_toArray, List.set_cons_zero, List.set_cons_succ]
          refine wpAnyE_take (i := 5) (v := ?_) rfl (by kernel_rfl) (fun _ _ _ h => h) (Or.inl ⟨by rfl, ?_⟩) hS ?_
          rotate_left
          · intro w hSw; (try dsimp only at hSw); go_simp; (try with_reducible rfl)
          try simp only [Act.put, List.setIfInBounds_toArray, List.set_cons_zero, List.set_cons_succ]
          refine wpAnyE_take (i := 6) (v := ?_) rfl (by kernel_rfl) (fun _ _ _ h => h) (Or.inl ⟨by rfl, ?_⟩) hS ?_
          rotate_left
          · intro w hSw; (try dsimp only at hSw); go_simp; (try with_reducible rfl)
          try simp only [Act.put, List.setIfInBounds_toArray, List.set_cons_zero, List.set_cons_succ]
          refine wpAnyE_take (i := 7) (v := ?_) rfl (by kernel_rfl) (fun _ _ _ h => h) (Or.inl ⟨by rfl, ?_⟩) hS ?_
          rotate_left
          · intro w hSw; (try dsimp only at hSw); go_simp; (try with_reducible rfl)
          try simp only [Act.put, List.setIfInBounds_toArray, List.set_cons_zero, List.set_cons_succ]
          refine wpAnyE_take (i := 8) (v := ?_) rfl (by kernel_rfl) (fun _ _ _ h => h) (Or.inl ⟨by rfl, ?_⟩) hS ?_
          rotate_left
          · intro w hSw; (try dsimp only at hSw); go_simp; (try with_reducible rfl)
          try simp only [Act.put, List.setIfInBounds_toArray, List.set_cons_zero, List.set_cons_succ]
          refine wpAnyE_take (i := 9) (v := ?_) rfl (by kernel_rfl) (fun _ _ _ h => h) (Or.inl ⟨by rfl, ?_⟩) hS ?_
          rotate_left
          · intro w hSw; (try dsimp only at hSw); go_simp; (try with_reducible rfl)
          try simp only [Act.put, List.setIfInBounds_toArray, List.set_cons_zero, List.set_cons_succ]
          refine wpAnyE_take (i := 10) (v := ?_) rfl (by kernel_rfl) (fun _ _ _ h => h) (Or.inl ⟨by rfl, ?_⟩) hS ?_
          rotate_left
          · intro w hSw; (try dsimp only at hSw); go_simp; (try with_reducible rfl)
          try simp only [Act.put, List.setIfInBounds_toArray, List.set_cons_zero, List.set_cons_succ]
          refine wpAnyE_take (i := 11) (v := ?_) rfl (by kernel_rfl) (fun _ _ _ h => h) (Or.inl ⟨by rfl, ?_⟩) hS ?_
          rotate_left
          · intro w hSw; (try dsimp only at hSw); go_simp; (try with_reducible rfl)
          try simp only [Act.put, List.setIfInBounds_toArray, List.set_cons_zero, List.set_cons_succ]
          refine wpAnyE_take (i := 12) (v := ?_) rfl (by kernel_rfl) (fun _ _ _ h => h) (Or.inl ⟨by rfl, ?_⟩) hS ?_
          rotate_left
          · intro w hSw; (try dsimp only at hSw); go_simp; (try with_reducible rfl)
          try simp only [Act.put, List.setIfInBounds_toArray, List.set_cons_zero, List.set_cons_succ]
          refine wpAnyE_take (i := 13) (v := ?_) rfl (by kernel_rfl) (fun _ _ _ h => h) (Or.inl ⟨by rfl, ?_⟩) hS ?_
          rotate_left
          · intro w hSw; (try dsimp only at hSw); go_simp; (try with_reducible rfl)
          try simp only [Act.put, List.setIfInBounds_toArray, List.set_cons_zero, List.set_cons_succ]
          refine wpAnyE_take (i := 14) (v := ?_) rfl (by kernel_rfl) (fun _ _ _ h => h) (Or.inl ⟨by rfl, ?_⟩) hS ?_
          rotate_left
          · intro w hSw; (try dsimp only at hSw); go_simp; (try with_reducible rfl)
          try simp only [Act.put, List.setIfInBounds_toArray, List.set_cons_zero, List.set_cons_succ]
          refine wpAnyE_take (i := 15) (v := ?_) rfl (by kernel_rfl) (fun _ _ _ h => h) (Or.inl ⟨by rfl, ?_⟩) hS ?_
          rotate_left
          · intro w hSw; (try dsimp only at hSw); go_simp; (try with_reducible rfl)
          try simp only [Act.put, List.setIfInBounds_toArray, List.set_cons_zero, List.set_cons_succ]
          refine wpAnyE_take (i := 16) (v := ?_) rfl (by kernel_rfl) (fun _ _ _ h => h) (Or.inl ⟨by rfl, ?_⟩) hS ?_
          rotate_left
          · intro w hSw; (try dsimp only at hSw); go_simp; (try with_reducible rfl)
          try simp only [Act.put, List.setIfInBounds_toArray, List.set_cons_zero, List.set_cons_succ]
          refine wpAnyE_take (i := 17) (v := ?_) rfl (by kernel_rfl) (fun _ _ _ h => h) (Or.inl ⟨by rfl, ?_⟩) hS ?_
          rotate_left
          · intro w hSw; (try dsimp only at hSw); go_simp; (try with_reducible rfl)
          try simp only [Act.put, List.setIfInBounds_toArray, List.set_cons_zero, List.set_cons_succ]
          refine wpAnyE_one (k := 18) (by kernel_rfl) rfl (fun K hK => ?_)
          go_simp
          refine hK.out _ _ (fun _ => ?_) ?_
          · obtain ⟨q0, q1, q2, q3, q4⟩ := hS
            exact ⟨((kN.drew).past _).cell, ((kP.drew).past _).cell 2, cell_by' ((Below.refl _ wr.drew).alloc (Nat.le_refl _) _) e1, cell_by' ((Below.refl _ wr.drew).alloc (Nat.le_refl _) _) e2, cell_by' ((Below.refl _ wr.drew).alloc (Nat.le_refl _) _) e3⟩
          try simp only [Act.put, List.setIfInBounds_toArray, List.set_cons_zero, List.set_cons_succ]
          refine wpAnyE_one (k := 19) (by kernel_rfl) rfl (fun K hK => ?_)
          refine step_pushP (by rfl) _ _ (by rfl) B h2 (.slice au j cu) ((ps.take j).map (renP names)) (by rfl) (HBP.out.by (((Below.refl _ wr).drew).alloc (Nat.le_refl _) _)) wr.heap.size ⟨nm, y⟩ (by rfl) (Blk.new _ rfl) hh2 HLM.out ?_
          intro a' c' w3 hBl3 hw3
          rw [HML.out] at hBl3 ⊢
          have HBL3 := Lib.hid hBl3
          have kP3 := hw3.blk (kP.drew.past (.cells #[.string nm, .int .i64 y] 49)) (by omega)
          have kN3 := hw3.blk (kN.drew.past (.cells #[.string nm, .int .i64 y] 49)) (by omega)
          have kZ3 := hw3.blk (kZ.drew.past (.cells #[.string nm, .int .i64 y] 49)) (by omega)
          have hb3 := hw3.below (below_al (hb.drew) (.cells #[.string nm, .int .i64 y] 49)) (by omega)
          have cP3 : w3.cell? ⟨w.heap.size + 1 + 1, 2, none⟩ = some (.slice au j cu) := kP3.cell 2
          have fP3 : w3.frozen? ⟨w.heap.size + 1 + 1, 2, none⟩ = false := kP3.free 2
          have lP3 := kP3.lt
          have h2s := HBP.out.1
          have hsz3 := hw3.size
          simp only [World.size_alloc, World.size_drew] at hsz3
          have HD3 := Lib.hid (Bld.past hw3 (((HBD.out.by (below_of_drewN wr 1))).by ((Below.refl _ (wr.drewN 1)).alloc (Nat.le_refl _) (.cells #[.string nm, .int .i64 y] 49))) (by omega))
          have hS3 : (∀ o, w3.cell? ⟨w.heap.size, o, none⟩ = (#[.int .i64 nets, .slice a1 ds.length c1, .slice (some ⟨pb, poff, none⟩) ps.length c2] : Array Value)[o]?) ∧ w3.cell? ⟨w.heap.size + 1 + 1, 2, none⟩ = some (.slice au j cu) ∧ w3.cell? ⟨pb, poff + j * 2, none⟩ = some (.string nm) ∧ w3.cell? ⟨pb, poff + j * 2 + 1, none⟩ = some (.int .i64 q) ∧ w3.cell? ⟨nb, noff + q, none⟩ = some (.int .i64 y) := ⟨kN3.cell, cP3, cell_by' hb3 d1, cell_by' hb3 d2, cell_by' hb3 cn⟩
          clear hBl3
          refine hK.out _ _ (fun _ => hS3) ?_
          try simp only [Act.put, List.setIfInBounds_toArray, List.set_cons_zero, List.set_cons_succ]
          refine wpAnyE_one (k := 20) (by kernel_rfl) rfl (fun K hK => ?_)
          go_simp
          refine hK.out _ _ (fun _ => hS3) ?_
          try simp only [Act.put, List.setIfInBounds_toArray, List.set_cons_zero, List.set_cons_succ]
          refine wpAnyE_one (k := 21) (by kernel_rfl) rfl (fun K hK => ?_)
          go_simp
          refine hK.out _ _ (fun h => absurd rfl h) ?_
          refine wpAnyE_done (by kernel_rfl) ?_ _
          clear hS hS3
          go_wp2_with fail
          have hW4 : Within (w.heap.size + 1 + 1) (w.heap.size + 1 + 1 + 1) w3 (w3.setCell ⟨w.heap.size + 1 + 1, 2, none⟩ (.slice a' (j + 1) c')) := Within.off _
          refine ⟨⟨j + 1, w3.heap.size, .slice a' (j + 1) c', by omega, by go_num, ?_, by omega, kN3.apart _ 2 _ (by omega), kZ3.apart _ 2 _ (by omega), kP3.set 2 _, Lib.hid (Bld.past hW4 HD3.out (by omega)), hb3.setCell (by simp; omega) _⟩, by simp [intOf]; omega⟩
          rw [HTK.out j x HX.out, HNM.out]
          exact BldP.past hW4 HBL3.out (by omega)
        · obtain rfl : j = ps.length := by omega
          have hBP2 := HBP.out
          rw [List.take_length] at hBP2
          have HOD := Lib.hid HBD.out.own
          have HOP := Lib.hid hBP2.own
          have qN := kN.cell
          have qP := kP.cell
          have qZ := kZ.cell
          have fZ := kZ.free
          have lZ := kZ.lt
          have h2s := hBP2.1
          clear hBP2 HBP HBD
          go_wp2
          refine bodyPost_ret (v := .agg #[.int .i64 nets2, .slice av ds.length cv, .slice au ps.length cu]) (by simp [results, Tryd.results34, go_sem, *]) rfl ⟨_, rfl, ⟨_, _, w.heap.size + 3, hi, B, h2, rfl, ?_, ?_, ⟨by omega, by simp; omega⟩, ⟨by omega, by simp; omega⟩, .inl hiB⟩, ?_⟩
          · exact ((HOD.out.past (Within.off _) (by omega)).past (Within.off _) (by omega)).past (Within.off _) (by omega)
          · exact ((HOP.out.past (Within.off _) (by omega)).past (Within.off _) (by omega)).past (Within.off _) (by omega)
          · repeat (first | (with_reducible exact hb) | ((with_reducible refine Below.setCell ?_ ?_ _); rotate_left; focus (simp; try omega)))
end Go.Proofs.YtglddnkpccgchaaDoor

/- Renamed netlists: what both functions share. -/
namespace Go.Proofs.YtglddnkpccgchaaDoor
open Go.RowKit
set_option linter.unusedVariables false
set_option linter.unusedSimpArgs false

theorem nlZero (w : World) (lo hi : Nat) (h : lo ≤ hi) : OwnNl w lo hi (.agg #[.int .i64 0, .slice none 0 0, .slice none 0 0]) ⟨0, [], []⟩ :=
  ⟨_, _, lo, hi, hi, hi, rfl, .inl ⟨_, _, rfl, rfl⟩, .inl ⟨_, _, rfl, rfl⟩, ⟨Nat.le_refl _, Nat.le_refl _⟩, ⟨h, Nat.le_refl _⟩, .inl (Nat.le_refl _)⟩
def renC (x : Nl) (names : List Int) : Int := if nlB x = true then (if permB names x.nets = true then 0 else 2) else 1
def renR (x : Nl) (names : List Int) : Nl := if nlB x = true then (if permB names x.nets = true then renS x names x.nets else ⟨0, [], []⟩) else ⟨0, [], []⟩
theorem dsum_renD (names : List Int) (ds : List Dv) : dsum (ds.map (renD names)) = dsum ds := by
  induction ds with
  | nil => rfl
  | cons d ds ih => simp only [List.map_cons, dsum, ih]; simp [renD]
theorem nsum_renS (x : Nl) (names : List Int) (n : Int) : nsum (renS x names n) = nsum x := by simp [nsum, renS, dsum_renD]
theorem renR_bounds {x : Nl} {names : List Int} (h1 : ∀ d ∈ x.ds, d.pins.length ≤ 1048576) (h2 : nsum x ≤ 4000000) : (∀ d ∈ (renR x names).ds, d.pins.length ≤ 1048576) ∧ nsum (renR x names) ≤ 4000000 := by
  unfold renR
  split
  · split
    · refine ⟨fun d hd => ?_, by rw [nsum_renS]; exact h2⟩
      obtain ⟨y, hy, rfl⟩ := List.mem_map.1 hd
      simpa [renD] using h1 y hy
    · simp [nsum, dsum]
  · simp [nsum, dsum]
theorem nl_nets {x : Nl} (h : nlB x = true) : ∀ p ∈ x.ps, 0 ≤ p.net ∧ p.net < x.nets := by
  intro p hp
  obtain ⟨i, hi, e⟩ := List.mem_iff_getElem.1 hp
  have := (nlB_facts h).2.2.2.2 i hi
  have hg : x.ps[i]? = some p := by rw [List.getElem?_eq_getElem hi, e]
  simp only [ptOk, hg, Bool.and_eq_true] at this
  have h2 := inB_iff.1 this.2.1
  omega


theorem specRenW_any (x : Nl) (names : List Int) (sn : Value) (nets2 : Int) (v : Value) (w : World) (h : NlV w v x) (hn : IntSl w sn names) (hl : x.ds.length ≤ 24) (hpl : x.ps.length ≤ 8)
    (hpn : ∀ d ∈ x.ds, d.pins.length ≤ 3 ∧ d.pins ≠ [] ∧ ∀ p ∈ d.pins, 0 ≤ p ∧ p < names.length) (hpp : ∀ p ∈ x.ps, 0 ≤ p.net ∧ p.net < names.length) :
    Calls Tryd.prog 34 #[v, .int .i64 nets2, sn] w fun e w' => ∃ v', e = .returned v' ∧ OwnNl w' w.heap.size w'.heap.size v' (renS x names nets2) ∧ Below w.heap.size w w' := specRen_any x names sn nets2 v w h hn hl hpl hpn hpp

end Go.Proofs.YtglddnkpccgchaaDoor

/- Netlists without the nets that nothing refers to: the plain part. -/
namespace Go.Proofs.YtglddnkpccgchaaDoor
open Go.RowKit
set_option linter.unusedVariables false
set_option linter.unusedSimpArgs false

def usedB (x : Nl) (net : Int) : Bool := decide (0 < degN x.ds net) || portB x.ps net
/-- How many of the first k nets something refers to. -/
def cnt (x : Nl) : Nat → Nat
  | 0 => 0
  | k + 1 => cnt x k + if usedB x k = true then 1 else 0
theorem cnt_succ (x : Nl) (k : Nat) : cnt x (k + 1) = cnt x k + if usedB x k = true then 1 else 0 := rfl
theorem usedB_def (x : Nl) (k : Nat) : usedB x k = (decide (0 < degN x.ds k) || portB x.ps k) := rfl
theorem cnt_le (x : Nl) (k : Nat) : cnt x k ≤ k := by
  induction k with
  | zero => exact Nat.le_refl _
  | succ k ih => simp only [cnt]; split <;> omega
def nmC (x : Nl) (n : Nat) : List Int := (List.range n).map fun i => (cnt x i : Int)
theorem length_nmC (x : Nl) (n : Nat) : (nmC x n).length = n := by simp [nmC]
theorem nmC_succ (x : Nl) (n : Nat) : nmC x (n + 1) = nmC x n ++ [(cnt x n : Int)] := by simp [nmC, List.range_succ]
/-- The first k names laid, noughts behind. -/
def nmTo (x : Nl) (n k : Nat) : List Int := (List.range n).map fun i => if i < k then (cnt x i : Int) else 0
theorem length_nmTo (x : Nl) (n k : Nat) : (nmTo x n k).length = n := by simp [nmTo]
theorem nmTo_all (x : Nl) (n : Nat) : nmTo x n n = nmC x n := by
  apply List.ext_getElem?
  intro i
  by_cases hi : i < n
  · simp [nmTo, nmC, hi]
  · rw [List.getElem?_eq_none (by rw [length_nmTo]; omega), List.getElem?_eq_none (by rw [length_nmC]; omega)]
theorem nmTo_step (x : Nl) (n k : Nat) (hk : k < n) : (nmTo x n k).set k (cnt x k : Int) = nmTo x n (k + 1) := by
  apply List.ext_getElem?
  intro i
  by_cases e : k = i
  · subst e
    rw [List.getElem?_set_self (by rw [length_nmTo]; exact hk)]
    simp [nmTo, hk]
  · rw [List.getElem?_set_ne e]
    by_cases hi : i < n
    · simp only [nmTo, List.getElem?_map, List.getElem?_range hi, Option.map_some]
      congr 1
      by_cases h : i < k
      · rw [if_pos h, if_pos (by omega)]
      · rw [if_neg h, if_neg (by omega)]
    · rw [List.getElem?_eq_none (by rw [length_nmTo]; omega), List.getElem?_eq_none (by rw [length_nmTo]; omega)]
/-- How often something refers to each net: the pins, and the first j ports. -/
def usN (x : Nl) (j i : Nat) : Nat := degN x.ds i + ((x.ps.take j).map Pt.net).count (i : Int)
def usT (x : Nl) (n j : Nat) : List Int := (List.range n).map fun i => (usN x j i : Int)
theorem length_usT (x : Nl) (n j : Nat) : (usT x n j).length = n := by simp [usT]
theorem usT_get (x : Nl) (n j i : Nat) (h : i < n) : (usT x n j)[i]? = some (usN x j i : Int) := by simp [usT, h]
theorem usN_step (x : Nl) (j i q : Nat) (p : Pt) (hp : x.ps[j]? = some p) (hq : p.net = (q : Int)) : usN x (j + 1) i = usN x j i + if q = i then 1 else 0 := by
  unfold usN
  rw [take_snoc_of x.ps j p hp, List.map_append, List.count_append]
  simp only [List.map_cons, List.map_nil, hq, List.count_cons, List.count_nil]
  by_cases e : q = i
  · subst e; simp; omega
  · rw [if_neg e]; simp; omega
theorem usT_step (x : Nl) (n j q : Nat) (p : Pt) (hp : x.ps[j]? = some p) (hq : p.net = (q : Int)) (hqn : q < n) : (usT x n j).set q ((usN x j q : Int) + 1) = usT x n (j + 1) := by
  apply List.ext_getElem?
  intro i
  by_cases e : q = i
  · subst e
    rw [List.getElem?_set_self (by rw [length_usT]; exact hqn), usT_get _ _ _ _ hqn, usN_step x j q q p hp hq, if_pos rfl]
    simp
  · rw [List.getElem?_set_ne e]
    by_cases hi : i < n
    · rw [usT_get _ _ _ _ hi, usT_get _ _ _ _ hi, usN_step x j i q p hp hq, if_neg e]; simp
    · rw [List.getElem?_eq_none (by rw [length_usT]; omega), List.getElem?_eq_none (by rw [length_usT]; omega)]
theorem usN_used (x : Nl) (i : Nat) : decide (0 < usN x x.ps.length i) = usedB x i := by
  unfold usN usedB
  rw [List.take_length]
  have h : portB x.ps (i : Int) = decide (0 < (x.ps.map Pt.net).count (i : Int)) := by
    rw [Bool.eq_iff_iff]
    simp [portB, List.count_pos_iff]
  rw [h, Bool.eq_iff_iff, Bool.or_eq_true, decide_eq_true_iff, decide_eq_true_iff, decide_eq_true_iff]
  omega
theorem usN_le (x : Nl) (j i : Nat) (h1 : x.ds.length ≤ 24) (h2 : ∀ d ∈ x.ds, d.pins.length ≤ 3) (h3 : x.ps.length ≤ 8) : usN x j i ≤ 80 := by
  have a := degN_le x.ds i h2
  have b := List.count_le_length (a := (i : Int)) (l := (x.ps.take j).map Pt.net)
  have c := List.length_take (i := j) (l := x.ps)
  rw [List.length_map] at b
  unfold usN
  omega
def cmS (x : Nl) : Nl := if nlB x = true then renS x (nmC x x.nets.toNat) (cnt x x.nets.toNat) else ⟨0, [], []⟩
theorem cmS_bounds {x : Nl} (h1 : ∀ d ∈ x.ds, d.pins.length ≤ 1048576) (h2 : nsum x ≤ 4000000) : (∀ d ∈ (cmS x).ds, d.pins.length ≤ 1048576) ∧ nsum (cmS x) ≤ 4000000 := by
  unfold cmS
  split
  · refine ⟨fun d hd => ?_, by rw [nsum_renS]; exact h2⟩
    obtain ⟨y, hy, rfl⟩ := List.mem_map.1 hd
    simpa [renD] using h1 y hy
  · simp [nsum, dsum]
theorem IBlk.set {w : World} {g : Nat} {zs : List Int} (h : IBlk w g zs) (k : Nat) (y : Int) : IBlk (w.setCell ⟨g, k, none⟩ (.int .i64 y)) g (zs.set k y) := by
  obtain ⟨cs, h1, h2, h3⟩ := h
  exact ⟨_, h1.set k _, by simp [h2], ICs.set (cs := cs) h3 k y⟩
end Go.Proofs.YtglddnkpccgchaaDoor

/- CompactNets, the program's. -/
namespace Go.Proofs.YtglddnkpccgchaaDoor
open Go.RowKit
set_option linter.unusedVariables false
set_option linter.unusedSimpArgs false

end Go.Proofs.YtglddnkpccgchaaDoor

/- CompactNets, the reference's. -/
namespace Go.Proofs.YtglddnkpccgchaaDoor
open Go.RowKit
set_option linter.unusedVariables false
set_option linter.unusedSimpArgs false

end Go.Proofs.YtglddnkpccgchaaDoor
