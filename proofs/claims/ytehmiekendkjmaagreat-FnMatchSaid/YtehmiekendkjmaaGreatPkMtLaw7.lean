/- Contracts and plain laws, part 7, for the statement's proof. -/
import Derived.Test.YtehmiekendkjmaaGreatPkMtLaw6
import Derived.BigRegion
import Derived.Deep.RegionHeld3
import Derived.BigQuiet
import Derived.Deep.AppendSrc
import Derived.Shelf.Abstract
namespace Go.Proofs.YtehmiekendkjmaaGreat
open Go.RowKit
set_option linter.unusedVariables false
set_option linter.unusedSimpArgs false
/- The reference's l27Rename. -/
set_option maxRecDepth 100000 in
set_option maxHeartbeats 8000000 in
theorem specRen_any (x : Nl) (names : List Int) (sn : Value) (nets2 : Int) (v : Value) (w : World) (h : NlV w v x) (hn : IntSl w sn names) (hl : x.ds.length ≤ 24) (hpl : x.ps.length ≤ 8)
    (hpn : ∀ d ∈ x.ds, d.pins.length ≤ 3 ∧ d.pins ≠ [] ∧ ∀ p ∈ d.pins, 0 ≤ p ∧ p < names.length) (hpp : ∀ p ∈ x.ps, 0 ≤ p.net ∧ p.net < names.length) :
    Calls Tryz.prog 59 #[v, .int .i64 nets2, sn] w fun e w' => ∃ v', e = .returned v' ∧ OwnNl w' w.heap.size w'.heap.size v' (renS x names nets2) ∧ Below w.heap.size w w' := by
  obtain ⟨s1, s2, rfl, hd, hp⟩ := h
  obtain ⟨nets, ds, ps⟩ := x
  dsimp only at hd hp hl hpl hpn hpp ⊢
  have HD := Lib.hid hd
  have HP := Lib.hid hp
  have HN := Lib.hid hn
  have HPN := Lib.hid hpn
  have HPP := Lib.hid hpp
  obtain ⟨a1, c1, rfl⟩ := hd.sized
  obtain ⟨a2, c2, rfl⟩ := hp.sized
  obtain ⟨an, cn, rfl⟩ := hn.len
  clear hd hp hn hpn hpp
  go_enter Tryz.func59, Tryz.ntmps59
  go_wp2
  go_loopw [8, 9, 10] (fun i _ _ wr => ∃ (k : Nat) (v : Value) (hi : Nat), k ≤ ds.length ∧ w.heap.size + 3 ≤ hi ∧ i = .int .i64 k ∧ Bld wr (w.heap.size + 3) hi v ((ds.take k).map (renD names)) ∧ Blk wr w.heap.size #[.int .i64 nets, .slice a1 ds.length c1, .slice a2 ps.length c2] 27 ∧ Blk wr (w.heap.size + 1) #[.int .i64 0, .slice none 0 0, .slice none 0 0] 27 ∧ Blk wr (w.heap.size + 1 + 1) #[.int .i64 nets2, v, .slice none 0 0] 27 ∧ Below w.heap.size w wr) (fun i _ _ _ => ds.length - (intOf i).toNat)
  case atStart =>
    refine ⟨0, .slice none 0 0, w.heap.size + 3, Nat.zero_le _, Nat.le_refl _, rfl, ?_, blkT, blkT, blkT, blwT⟩
    have hnil := Bld.nil (((w.alloc (.cells #[.int .i64 nets, .slice a1 ds.length c1, .slice a2 ps.length c2] 27)).alloc (.cells #[.int .i64 0, .slice none 0 0, .slice none 0 0] 27)).alloc (.cells #[.int .i64 nets2, .slice none 0 0, .slice none 0 0] 27)) (w.heap.size + 3)
    simpa using hnil
  case round =>
    obtain ⟨k, v, hi, hk, hBhi, rfl, hBl, kN, kZ, kP, hb⟩ := hrel
    have hml : ((ds.take k).map (renD names)).length = k := by rw [List.length_map, List.length_take]; omega
    obtain ⟨av, cv, rfl⟩ := hBl.sized
    have hhi := hBl.1
    rw [hml] at hBl kP
    have HBL := Lib.hid hBl
    have HML := Lib.hid hml
    clear hBl hml
    by_cases hlt : k < ds.length
    · obtain ⟨x, hx⟩ : ∃ x, ds[k]? = some x := ⟨ds[k], List.getElem?_eq_getElem hlt⟩
      have HDS := HD.out
      rcases HDS with ⟨_, _, _, h2⟩ | ⟨b, off, cap, he, h2, h3, h4⟩
      · rw [h2] at hlt; simp at hlt
      obtain ⟨rfl, rfl⟩ : a1 = some ⟨b, off, none⟩ ∧ c1 = cap := by simpa using he
      obtain ⟨hxl, hxn, hxp⟩ := HPN.out x (List.mem_of_getElem? hx)
      obtain ⟨sx, d1, d2, d3, d4, hSx⟩ := (h4 k x hx).by hb
      have HCD := Lib.hid (fun w h => own_any x.kind x.wd x.len sx x.pins w h (by omega))
      have HSX := Lib.hid hSx
      have HX := Lib.hid hx
      have HXN := Lib.hid hxn
      have HXP := Lib.hid hxp
      obtain ⟨ax, cx, rfl⟩ := hSx.len
      have i1 : (0 : Int) ≤ (k : Int) := by omega
      have i2 : (k : Int) < (ds.length : Int) := by omega
      have cN := kN.cell
      clear h4 hx hxn hxp he hSx
      go_wp2_with fail
      refine (HCD.out _ (HSX.out.by blwT)).mono ?_
      rintro e w1 ⟨v1, rfl, hOI, hb1⟩
      obtain ⟨fb, hf1, hf2, hOR⟩ := hOI.pin HXN.out
      obtain ⟨gb, capb, csb, rfl, hgb, hcb, hmb, kB0, HIC0⟩ := hOR.cells HXN.out
      have hgf : gb = fb := by omega
      subst hgf
      replace kN := Blk.by hb1 kN
      replace kZ := Blk.by hb1 kZ
      replace kP := Blk.by hb1 kP
      replace hb := below_on hb1 hb
      have HB1 := Lib.hid (HBL.out.by hb1)
      have HICH := Lib.hid HIC0
      have hbs := hb1.size
      clear cN hb1 hOI hOR HIC0 HBL
      go_wp2
      have hIC : ICs csb (renTo names x.pins 0) := by rw [renTo_zero]; exact HICH.out
      obtain ⟨wA, hwA⟩ : ∃ wA, wA = w1.alloc (.cells #[.int .i64 x.kind, .slice (some ⟨gb, 0, none⟩) x.pins.length capb, .int .i64 x.wd, .int .i64 x.len] 54) := ⟨_, rfl⟩
      have kD : Blk wA w1.heap.size #[.int .i64 x.kind, .slice (some ⟨gb, 0, none⟩) x.pins.length capb, .int .i64 x.wd, .int .i64 x.len] 54 := by rw [hwA]; exact Blk.new _ rfl
      have kBA : Blk wA gb csb 2 := by rw [hwA]; exact kB0.past _
      have hbA : Below w.heap.size w wA := by rw [hwA]; exact below_al hb _
      have HWA := Lib.hid hwA
      rw [← hwA]
      clear hwA HICH
      go_loopw [10] (fun i wr2 => ∃ m : Nat, m ≤ x.pins.length ∧ i = .int .i64 m ∧ Blk wr2 w1.heap.size #[.int .i64 x.kind, .slice (some ⟨gb, 0, none⟩) x.pins.length capb, .int .i64 x.wd, .int .i64 x.len] 54 ∧ (∃ cs, Blk wr2 gb cs 2 ∧ Hid (ICs cs (renTo names x.pins m))) ∧ Within gb (gb + 1) wA wr2) (fun i _ => x.pins.length - (intOf i).toNat)
      case atStart => exact ⟨0, Nat.zero_le _, rfl, kD, ⟨csb, kBA, Lib.hid hIC⟩, Within.refl _ _ _⟩
      case round =>
        clear kD kBA hIC
        obtain ⟨m, hm, rfl, kD, ⟨cs, kB, HIC⟩, hW2⟩ := hrel
        have cD := kD.cell
        by_cases hlt2 : m < x.pins.length
        · obtain ⟨z, hz⟩ : ∃ z, x.pins[m]? = some z := ⟨x.pins[m], List.getElem?_eq_getElem hlt2⟩
          obtain ⟨hz0, hz1⟩ := HXP.out z (List.mem_of_getElem? hz)
          have cB := kB.cell
          have fB := kB.free
          have cz := HIC.out m z (renTo_get names x.pins m z hz)
          have hNw := HN.out.by (hW2.below hbA (by omega))
          obtain ⟨q, rfl⟩ : ∃ q : Nat, z = q := ⟨z.toNat, by omega⟩
          rcases hNw with ⟨_, _, _, h2⟩ | ⟨nb, noff, ncap, hen, _, _, hcn⟩
          · rw [h2] at hz1; simp at hz1; omega
          obtain ⟨rfl, rfl⟩ : an = some ⟨nb, noff, none⟩ ∧ cn = ncap := by simpa using hen
          have hq : q < names.length := by omega
          have cn := hcn q names[q] (List.getElem?_eq_getElem hq)
          have hnm : nmOf names (q : Int) = names[q] := by simp [nmOf, hq]
          have HZ := Lib.hid hz
          have HNM := Lib.hid hnm
          generalize names[q] = y at *
          have j1 : (0 : Int) ≤ (m : Int) := by omega
          have j2 : (m : Int) < (x.pins.length : Int) := by omega
          clear hz hnm hen hcn hq
          go_wp2_with fail
          go_region
          all_goals go_wp2_with fail
          exact ⟨⟨m + 1, by omega, by go_num, (kD.apart gb m _ (by omega)).drew, ⟨cs.setIfInBounds m (.int .i64 y), (kB.set m _).drew, Lib.hid (by rw [← renTo_step names x.pins m q HZ.out, HNM.out]; exact HIC.out.set m y)⟩, (hW2.set gb m _ (Nat.le_refl _) (by omega)).drewN 1⟩, by simp [intOf]; omega⟩
        · obtain rfl : m = x.pins.length := by omega
          have hwA := HWA.out
          have hIC1 : ICs cs (x.pins.map (nmOf names)) := by have := HIC.out; rwa [renTo_all] at this
          have hOR0 := hIC1.own kB (by rw [List.length_map]; exact hcb) hmb
          rw [List.length_map] at hOR0
          have hOR1 : OwnR wr gb (gb + 1) (.slice (some ⟨gb, 0, none⟩) x.pins.length capb) (renD names x).pins := hOR0
          have sA : wA.heap.size = w1.heap.size + 1 := by rw [hwA]; simp
          have sz2 := hW2.size
          have kP2 := hW2.blk (show Blk wA (w.heap.size + 1 + 1) #[.int .i64 nets2, .slice av k cv, .slice none 0 0] 27 by rw [hwA]; exact kP.past _) (by omega)
          have kZ2 := hW2.blk (show Blk wA (w.heap.size + 1) #[.int .i64 0, .slice none 0 0, .slice none 0 0] 27 by rw [hwA]; exact kZ.past _) (by omega)
          have kN2 := hW2.blk (show Blk wA w.heap.size #[.int .i64 nets, .slice (some ⟨b, off, none⟩) ds.length c1, .slice a2 ps.length c2] 27 by rw [hwA]; exact kN.past _) (by omega)
          have hB2 : Bld wr (w.heap.size + 3) hi (.slice av k cv) ((ds.take k).map (renD names)) := Bld.past hW2 (show Bld wA (w.heap.size + 3) hi (.slice av k cv) ((ds.take k).map (renD names)) by rw [hwA]; exact HB1.out.by ((Below.refl _ w1).alloc (Nat.le_refl _) _)) (by omega)
          have hb2 := hW2.below hbA (by omega)
          have HB2 := Lib.hid hB2
          have HOR1 := Lib.hid hOR1
          have hgl : gb < wr.heap.size := kB.lt
          have HLM := Lib.hid (show ((ds.take k).map (renD names)).length ≤ 1000 by rw [HML.out]; omega)
          have hile : hi ≤ gb := by omega
          have qP := kP2.cell
          have lP := kP2.lt
          have fP := kP2.free
          have qD := kD.cell
          clear hwA hIC1 hOR0 hOR1 sA hB2 HWA HIC cD
          go_wp2_with (at_builtin; (refine list_push (by rfl) _ _ (by rfl) (w.heap.size + 3) hi (.slice av k cv) ((ds.take k).map (renD names)) (by rfl) (HB2.out.by blwT) wr.heap.size ⟨x.kind, x.pins.map (nmOf names), x.wd, x.len⟩ (.slice (some ⟨gb, 0, none⟩) x.pins.length capb) gb (by rfl) (Blk.new _ rfl) (OwnR.by ((Below.refl _ wr).alloc (Nat.le_refl _) _) HOR1.out) (by omega) hile (by simp; omega) HLM.out ?_; intro a' c' w3 hBl3 hw3; rw [HML.out] at hBl3 ⊢; have HBL3 := Lib.hid hBl3; have kP3 := hw3.blk (kP2.past (.cells #[.int .i64 x.kind, .slice (some ⟨gb, 0, none⟩) x.pins.length capb, .int .i64 x.wd, .int .i64 x.len] 54)) (by omega); have cP3 := kP3.cell; have fP3 := kP3.free; have lP3 := kP3.lt; clear hBl3))
          have hsz3 := hw3.size
          simp only [World.size_alloc] at hsz3
          have hW4 : Within (w.heap.size + 1 + 1) (w.heap.size + 1 + 1 + 1) w3 (w3.setCell ⟨w.heap.size + 1 + 1, 1, none⟩ (.slice a' (k + 1) c')) := Within.off _
          have kN3 := hw3.blk (kN2.past (.cells #[.int .i64 x.kind, .slice (some ⟨gb, 0, none⟩) x.pins.length capb, .int .i64 x.wd, .int .i64 x.len] 54)) (by omega)
          have kZ3 := hw3.blk (kZ2.past (.cells #[.int .i64 x.kind, .slice (some ⟨gb, 0, none⟩) x.pins.length capb, .int .i64 x.wd, .int .i64 x.len] 54)) (by omega)
          have hb3 := hw3.below (below_al hb2 _) (by omega)
          refine ⟨⟨k + 1, .slice a' (k + 1) c', w3.heap.size, by omega, by omega, by go_num, ?_, kN3.apart _ 1 _ (by omega), kZ3.apart _ 1 _ (by omega), kP3.set 1 _, hb3.setCell (by simp; omega) _⟩, by simp [intOf]; omega⟩
          rw [take_map_snoc (renD names) ds k x HX.out]
          exact Bld.past hW4 HBL3.out (by omega)
    · obtain rfl : k = ds.length := by omega
      have hBD := HBL.out
      rw [List.take_length] at hBD
      obtain ⟨wo, hwo⟩ : ∃ x : World, x = wr := ⟨_, rfl⟩
      subst hwo
      obtain ⟨B, hB⟩ : ∃ B, B = wo.heap.size := ⟨_, rfl⟩
      have hBP := BldP.nil wo wo.heap.size
      rw [← hB] at hBP
      have HBD := Lib.hid hBD
      have hbs := hb.size
      have hiB : hi ≤ B := by omega
      have hPB : w.heap.size + 1 + 1 < B := by rw [hB]; exact kP.lt
      have HTK := Lib.hid (fun j x hx => take_map_snoc (renP names) ps j x hx)
      clear hBD hB HBL HML hhi
      have cN := kN.cell
      have qP := kP.cell
      go_wp2
      clear cN qP
      go_loopw [11] (fun i wx => ∃ (j h2 : Nat) (u : Value), j ≤ ps.length ∧ i = .int .i64 j ∧ BldP wx B h2 u ((ps.take j).map (renP names)) ∧ B ≤ h2 ∧ Blk wx w.heap.size #[.int .i64 nets, .slice a1 ds.length c1, .slice a2 ps.length c2] 27 ∧ Blk wx (w.heap.size + 1) #[.int .i64 0, .slice none 0 0, .slice none 0 0] 27 ∧ Blk wx (w.heap.size + 1 + 1) #[.int .i64 nets2, .slice av ds.length cv, u] 27 ∧ Hid (Bld wx (w.heap.size + 3) hi (.slice av ds.length cv) (ds.map (renD names))) ∧ Below w.heap.size w wx) (fun i _ => ps.length - (intOf i).toNat)
      case atStart => exact ⟨0, B, .slice none 0 0, Nat.zero_le _, rfl, hBP, Nat.le_refl _, kN, kZ, kP, HBD, hb⟩
      case round =>
        clear kN kZ kP HBD hb hBP
        obtain ⟨j, h2, u, hj, rfl, hBP, hh2, kN, kZ, kP, HBD, hb⟩ := hrel
        have hml : ((ps.take j).map (renP names)).length = j := by rw [List.length_map, List.length_take]; omega
        obtain ⟨au, cu, rfl⟩ := hBP.sized
        rw [hml] at hBP kP
        have HBP := Lib.hid hBP
        have HML := Lib.hid hml
        clear hBP hml
        by_cases hlt2 : j < ps.length
        · obtain ⟨x, hx⟩ : ∃ x, ps[j]? = some x := ⟨ps[j], List.getElem?_eq_getElem hlt2⟩
          obtain ⟨hx0, hx1⟩ := HPP.out x (List.mem_of_getElem? hx)
          rcases HP.out with ⟨_, _, _, e2⟩ | ⟨pb, poff, pcap, pe, p2, p3, p4⟩
          · rw [e2] at hlt2; simp at hlt2
          obtain ⟨rfl, rfl⟩ : a2 = some ⟨pb, poff, none⟩ ∧ c2 = pcap := by simpa using pe
          obtain ⟨d1, d2⟩ := p4 j x hx
          obtain ⟨q, hq⟩ : ∃ q : Nat, x.net = q := ⟨x.net.toNat, by omega⟩
          rcases HN.out with ⟨_, _, _, e2⟩ | ⟨nb, noff, ncap, hen, _, _, hcn⟩
          · rw [e2] at hx1; simp at hx1; omega
          obtain ⟨rfl, rfl⟩ : an = some ⟨nb, noff, none⟩ ∧ cn = ncap := by simpa using hen
          have hql : q < names.length := by omega
          have cn := hcn q names[q] (List.getElem?_eq_getElem hql)
          have hren : renP names x = ⟨x.name, names[q]⟩ := by simp [renP, nmOf, hq, hql]
          rw [hq] at d2
          generalize names[q] = y at *
          have HX := Lib.hid hx
          have HRE := Lib.hid hren
          have HLM := Lib.hid (show ((ps.take j).map (renP names)).length ≤ 1000 by rw [HML.out]; omega)
          obtain ⟨nm, hnm⟩ : ∃ nm, x.name = nm := ⟨_, rfl⟩
          rw [hnm] at d1 hren
          have HNM := Lib.hid hren
          have j1 : (0 : Int) ≤ (j : Int) := by omega
          have j2 : (j : Int) < (ps.length : Int) := by omega
          have k1 : (0 : Int) ≤ (q : Int) := by omega
          have k2 : (q : Int) < (names.length : Int) := by omega
          clear hx p4 pe hq hen hcn hren hnm hx0 hx1 p2 p3
          have qN := kN.both
          have e1 := cell_by' hb d1
          have e2 := cell_by' hb d2
          have e3 := cell_by' hb cn
          have cP := kP.cell 2
          have lP := kP.lt
          have lN := kN.lt
          have cP1 : wr.cell? ⟨w.heap.size + 1 + 1, 2, none⟩ = some (.slice au j cu) := cP
          clear cP
          go_wp2_with fail
          refine wp_region_any (by kernel_rfl) (wpAny_of_E (S := fun w' => (∀ o, w'.cell? ⟨w.heap.size, o, none⟩ = (#[.int .i64 nets, .slice a1 ds.length c1, .slice (some ⟨pb, poff, none⟩) ps.length c2] : Array Value)[o]?) ∧ w'.cell? ⟨w.heap.size + 1 + 1, 2, none⟩ = some (.slice au j cu) ∧ w'.cell? ⟨pb, poff + j * 2, none⟩ = some (.string nm) ∧ w'.cell? ⟨pb, poff + j * 2 + 1, none⟩ = some (.int .i64 q) ∧ w'.cell? ⟨nb, noff + q, none⟩ = some (.int .i64 y)) (l := 21) _ _ _ _ ?_)
          have hS : (fun w' : World => (∀ o, w'.cell? ⟨w.heap.size, o, none⟩ = (#[.int .i64 nets, .slice a1 ds.length c1, .slice (some ⟨pb, poff, none⟩) ps.length c2] : Array Value)[o]?) ∧ w'.cell? ⟨w.heap.size + 1 + 1, 2, none⟩ = some (.slice au j cu) ∧ w'.cell? ⟨pb, poff + j * 2, none⟩ = some (.string nm) ∧ w'.cell? ⟨pb, poff + j * 2 + 1, none⟩ = some (.int .i64 q) ∧ w'.cell? ⟨nb, noff + q, none⟩ = some (.int .i64 y)) { wr with drawn := wr.drawn + 1 } := ⟨kN.cell, cP1, e1, e2, e3⟩
          change wpAnyE _ _ _ _ _ _ _ _ _ wr.drew
          refine wpAnyE_take (i := 0) (v := ?_) rfl (by kernel_rfl) (fun _ _ _ h => h) (Or.inl ⟨by rfl, ?_⟩) hS ?_
          rotate_left
          · intro w hSw; (try dsimp only at hSw); go_simp; (try with_reducible rfl)
          try simp only [Act.put, List.setIfInBounds_toArray, List.set_cons_zero, List.set_cons_succ]
          refine wpAnyE_take (i := 1) (v := ?_) rfl (by kernel_rfl) (fun _ _ _ h => h) (Or.inl ⟨by rfl, ?_⟩) hS ?_
          rotate_left
          · intro w hSw; (try dsimp only at hSw); go_simp; (try with_reducible rfl)
          try simp only [Act.put, List.setIfInBounds_toArray, List.set_cons_zero, List.set_cons_succ]
          refine wpAnyE_take (i := 2) (v := ?_) rfl (by kernel_rfl) (fun _ _ _ h => h) (Or.inl ⟨by rfl, ?_⟩) hS ?_
          rotate_left
          · intro w hSw; (try dsimp only at hSw); go_simp; (try with_reducible rfl)
          try simp only [Act.put, List.setIfInBounds_toArray, List.set_cons_zero, List.set_cons_succ]
          refine wpAnyE_take (i := 3) (v := ?_) rfl (by kernel_rfl) (fun _ _ _ h => h) (Or.inl ⟨by rfl, ?_⟩) hS ?_
          rotate_left
          · intro w hSw; (try dsimp only at hSw); go_simp; (try with_reducible rfl)
          try simp only [Act.put, List.setIfInBounds_toArray, List.set_cons_zero, List.set_cons_succ]
          refine wpAnyE_take (i := 4) (v := ?_) rfl (by kernel_rfl) (fun _ _ _ h => h) (Or.inl ⟨by rfl, ?_⟩) hS ?_
          rotate_left
          · intro w hSw; (try dsimp only at hSw); go_simp; (try with_reducible rfl)
          try simp only [Act.put, List.setIfInBounds_toArray, List.set_cons_zero, List.set_cons_succ]
          refine wpAnyE_take (i := 5) (v := ?_) rfl (by kernel_rfl) (fun _ _ _ h => h) (Or.inl ⟨by rfl, ?_⟩) hS ?_
          rotate_left
          · intro w hSw; (try dsimp only at hSw); go_simp; (try with_reducible rfl)
          try simp only [Act.put, List.setIfInBounds_toArray, List.set_cons_zero, List.set_cons_succ]
          refine wpAnyE_take (i := 6) (v := ?_) rfl (by kernel_rfl) (fun _ _ _ h => h) (Or.inl ⟨by rfl, ?_⟩) hS ?_
          rotate_left
          · intro w hSw; (try dsimp only at hSw); go_simp; (try with_reducible rfl)
          try simp only [Act.put, List.setIfInBounds_toArray, List.set_cons_zero, List.set_cons_succ]
          refine wpAnyE_take (i := 7) (v := ?_) rfl (by kernel_rfl) (fun _ _ _ h => h) (Or.inl ⟨by rfl, ?_⟩) hS ?_
          rotate_left
          · intro w hSw; (try dsimp only at hSw); go_simp; (try with_reducible rfl)
          try simp only [Act.put, List.setIfInBounds_toArray, List.set_cons_zero, List.set_cons_succ]
          refine wpAnyE_take (i := 8) (v := ?_) rfl (by kernel_rfl) (fun _ _ _ h => h) (Or.inl ⟨by rfl, ?_⟩) hS ?_
          rotate_left
          · intro w hSw; (try dsimp only at hSw); go_simp; (try with_reducible rfl)
          try simp only [Act.put, List.setIfInBounds_toArray, List.set_cons_zero, List.set_cons_succ]
          refine wpAnyE_take (i := 9) (v := ?_) rfl (by kernel_rfl) (fun _ _ _ h => h) (Or.inl ⟨by rfl, ?_⟩) hS ?_
          rotate_left
          · intro w hSw; (try dsimp only at hSw); go_simp; (try with_reducible rfl)
          try simp only [Act.put, List.setIfInBounds_toArray, List.set_cons_zero, List.set_cons_succ]
          refine wpAnyE_take (i := 10) (v := ?_) rfl (by kernel_rfl) (fun _ _ _ h => h) (Or.inl ⟨by rfl, ?_⟩) hS ?_
          rotate_left
          · intro w hSw; (try dsimp only at hSw); go_simp; (try with_reducible rfl)
          try simp only [Act.put, List.setIfInBounds_toArray, List.set_cons_zero, List.set_cons_succ]
          refine wpAnyE_take (i := 11) (v := ?_) rfl (by kernel_rfl) (fun _ _ _ h => h) (Or.inl ⟨by rfl, ?_⟩) hS ?_
          rotate_left
          · intro w hSw; (try dsimp only at hSw); go_simp; (try with_reducible rfl)
          try simp only [Act.put, List.setIfInBounds_toArray, List.set_cons_zero, List.set_cons_succ]
          refine wpAnyE_take (i := 12) (v := ?_) rfl (by kernel_rfl) (fun _ _ _ h => h) (Or.inl ⟨by rfl, ?_⟩) hS ?_
          rotate_left
          · intro w hSw; (try dsimp only at hSw); go_simp; (try with_reducible rfl)
          try simp only [Act.put, List.setIfInBounds_toArray, List.set_cons_zero, List.set_cons_succ]
          refine wpAnyE_take (i := 13) (v := ?_) rfl (by kernel_rfl) (fun _ _ _ h => h) (Or.inl ⟨by rfl, ?_⟩) hS ?_
          rotate_left
          · intro w hSw; (try dsimp only at hSw); go_simp; (try with_reducible rfl)
          try simp only [Act.put, List.setIfInBounds_toArray, List.set_cons_zero, List.set_cons_succ]
          refine wpAnyE_take (i := 14) (v := ?_) rfl (by kernel_rfl) (fun _ _ _ h => h) (Or.inl ⟨by rfl, ?_⟩) hS ?_
          rotate_left
          · intro w hSw; (try dsimp only at hSw); go_simp; (try with_reducible rfl)
          try simp only [Act.put, List.setIfInBounds_toArray, List.set_cons_zero, List.set_cons_succ]
          refine wpAnyE_take (i := 15) (v := ?_) rfl (by kernel_rfl) (fun _ _ _ h => h) (Or.inl ⟨by rfl, ?_⟩) hS ?_
          rotate_left
          · intro w hSw; (try dsimp only at hSw); go_simp; (try with_reducible rfl)
          try simp only [Act.put, List.setIfInBounds_toArray, List.set_cons_zero, List.set_cons_succ]
          refine wpAnyE_take (i := 16) (v := ?_) rfl (by kernel_rfl) (fun _ _ _ h => h) (Or.inl ⟨by rfl, ?_⟩) hS ?_
          rotate_left
          · intro w hSw; (try dsimp only at hSw); go_simp; (try with_reducible rfl)
          try simp only [Act.put, List.setIfInBounds_toArray, List.set_cons_zero, List.set_cons_succ]
          refine wpAnyE_take (i := 17) (v := ?_) rfl (by kernel_rfl) (fun _ _ _ h => h) (Or.inl ⟨by rfl, ?_⟩) hS ?_
          rotate_left
          · intro w hSw; (try dsimp only at hSw); go_simp; (try with_reducible rfl)
          try simp only [Act.put, List.setIfInBounds_toArray, List.set_cons_zero, List.set_cons_succ]
          refine wpAnyE_one (k := 18) (by kernel_rfl) rfl (fun K hK => ?_)
          go_simp
          refine hK.out _ _ (fun _ => ?_) ?_
          · obtain ⟨q0, q1, q2, q3, q4⟩ := hS
            exact ⟨((kN.drew).past _).cell, ((kP.drew).past _).cell 2, cell_by' ((Below.refl _ wr.drew).alloc (Nat.le_refl _) _) e1, cell_by' ((Below.refl _ wr.drew).alloc (Nat.le_refl _) _) e2, cell_by' ((Below.refl _ wr.drew).alloc (Nat.le_refl _) _) e3⟩
          try simp only [Act.put, List.setIfInBounds_toArray, List.set_cons_zero, List.set_cons_succ]
          refine wpAnyE_one (k := 19) (by kernel_rfl) rfl (fun K hK => ?_)
          refine step_pushP (by rfl) _ _ (by rfl) B h2 (.slice au j cu) ((ps.take j).map (renP names)) (by rfl) (HBP.out.by (((Below.refl _ wr).drew).alloc (Nat.le_refl _) _)) wr.heap.size ⟨nm, y⟩ (by rfl) (Blk.new _ rfl) hh2 HLM.out ?_
          intro a' c' w3 hBl3 hw3
          rw [HML.out] at hBl3 ⊢
          have HBL3 := Lib.hid hBl3
          have kP3 := hw3.blk (kP.drew.past (.cells #[.string nm, .int .i64 y] 52)) (by omega)
          have kN3 := hw3.blk (kN.drew.past (.cells #[.string nm, .int .i64 y] 52)) (by omega)
          have kZ3 := hw3.blk (kZ.drew.past (.cells #[.string nm, .int .i64 y] 52)) (by omega)
          have hb3 := hw3.below (below_al (hb.drew) (.cells #[.string nm, .int .i64 y] 52)) (by omega)
          have cP3 : w3.cell? ⟨w.heap.size + 1 + 1, 2, none⟩ = some (.slice au j cu) := kP3.cell 2
          have fP3 : w3.frozen? ⟨w.heap.size + 1 + 1, 2, none⟩ = false := kP3.free 2
          have lP3 := kP3.lt
          have h2s := HBP.out.1
          have hsz3 := hw3.size
          simp only [World.size_alloc, World.size_drew] at hsz3
          have HD3 := Lib.hid (Bld.past hw3 (((HBD.out.by (below_of_drewN wr 1))).by ((Below.refl _ (wr.drewN 1)).alloc (Nat.le_refl _) (.cells #[.string nm, .int .i64 y] 52))) (by omega))
          have hS3 : (∀ o, w3.cell? ⟨w.heap.size, o, none⟩ = (#[.int .i64 nets, .slice a1 ds.length c1, .slice (some ⟨pb, poff, none⟩) ps.length c2] : Array Value)[o]?) ∧ w3.cell? ⟨w.heap.size + 1 + 1, 2, none⟩ = some (.slice au j cu) ∧ w3.cell? ⟨pb, poff + j * 2, none⟩ = some (.string nm) ∧ w3.cell? ⟨pb, poff + j * 2 + 1, none⟩ = some (.int .i64 q) ∧ w3.cell? ⟨nb, noff + q, none⟩ = some (.int .i64 y) := ⟨kN3.cell, cP3, cell_by' hb3 d1, cell_by' hb3 d2, cell_by' hb3 cn⟩
          clear hBl3
          refine hK.out _ _ (fun _ => hS3) ?_
          try simp only [Act.put, List.setIfInBounds_toArray, List.set_cons_zero, List.set_cons_succ]
          refine wpAnyE_one (k := 20) (by kernel_rfl) rfl (fun K hK => ?_)
          go_simp
          refine hK.out _ _ (fun _ => hS3) ?_
          try simp only [Act.put, List.setIfInBounds_toArray, List.set_cons_zero, List.set_cons_succ]
          refine wpAnyE_one (k := 21) (by kernel_rfl) rfl (fun K hK => ?_)
          go_simp
          refine hK.out _ _ (fun h => absurd rfl h) ?_
          refine wpAnyE_done (by kernel_rfl) ?_ _
          clear hS hS3
          go_wp2_with fail
          have hW4 : Within (w.heap.size + 1 + 1) (w.heap.size + 1 + 1 + 1) w3 (w3.setCell ⟨w.heap.size + 1 + 1, 2, none⟩ (.slice a' (j + 1) c')) := Within.off _
          refine ⟨⟨j + 1, w3.heap.size, .slice a' (j + 1) c', by omega, by go_num, ?_, by omega, kN3.apart _ 2 _ (by omega), kZ3.apart _ 2 _ (by omega), kP3.set 2 _, Lib.hid (Bld.past hW4 HD3.out (by omega)), hb3.setCell (by simp; omega) _⟩, by simp [intOf]; omega⟩
          rw [HTK.out j x HX.out, HNM.out]
          exact BldP.past hW4 HBL3.out (by omega)
        · obtain rfl : j = ps.length := by omega
          have hBP2 := HBP.out
          rw [List.take_length] at hBP2
          have HOD := Lib.hid HBD.out.own
          have HOP := Lib.hid hBP2.own
          have qN := kN.cell
          have qP := kP.cell
          have qZ := kZ.cell
          have fZ := kZ.free
          have lZ := kZ.lt
          have h2s := hBP2.1
          clear hBP2 HBP HBD
          go_wp2
          refine bodyPost_ret (v := .agg #[.int .i64 nets2, .slice av ds.length cv, .slice au ps.length cu]) (by simp [results, Tryz.results59, go_sem, *]) rfl ⟨_, rfl, ⟨_, _, w.heap.size + 3, hi, B, h2, rfl, ?_, ?_, ⟨by omega, by simp; omega⟩, ⟨by omega, by simp; omega⟩, .inl hiB⟩, ?_⟩
          · exact ((HOD.out.past (Within.off _) (by omega)).past (Within.off _) (by omega)).past (Within.off _) (by omega)
          · exact ((HOP.out.past (Within.off _) (by omega)).past (Within.off _) (by omega)).past (Within.off _) (by omega)
          · repeat (first | (with_reducible exact hb) | ((with_reducible refine Below.setCell ?_ ?_ _); rotate_left; focus (simp; try omega)))
/- Renamed netlists: what both functions share. -/
/- Netlists without the nets that nothing refers to: the plain part. -/
def usedB (x : Nl) (net : Int) : Bool := decide (0 < degN x.ds net) || portB x.ps net
def cnt (x : Nl) : Nat → Nat
  | 0 => 0
  | k + 1 => cnt x k + if usedB x k = true then 1 else 0
theorem IBlk.set {w : World} {g : Nat} {zs : List Int} (h : IBlk w g zs) (k : Nat) (y : Int) : IBlk (w.setCell ⟨g, k, none⟩ (.int .i64 y)) g (zs.set k y) := by
  obtain ⟨cs, h1, h2, h3⟩ := h
  exact ⟨_, h1.set k _, by simp [h2], ICs.set (cs := cs) h3 k y⟩
/- CompactNets, the program's. -/
/- CompactNets, the reference's. -/
theorem infoBo : (Tryz.prog.info? 4).map (fun i => (i.zero, i.size, i.bytes)) = some (some (.bool false), 1, 1) := by kernel_rfl
theorem make_boolsP (n : Nat) (hn : n ≤ 1048576) (w : World) : ∃ cs : Array Value, cs.size = n ∧ (∀ i, i < n → cs[i]? = some (Value.bool false)) ∧ (Instr.makeSlice 74 (.int .i64 n) (.int .i64 n)).run Tryz.prog w = .ok (.slice (some ⟨w.heap.size, 0, none⟩) n n) (w.alloc (.cells cs 4)) := by
  obtain ⟨i0, hi, hz0, hz1, hz2⟩ := info_parts infoBo
  have h := run_make (P := Tryz.prog) w 74 4 i0 _ Tryz.underlying74 hi hz0 .i64 .i64 (n : Int) (n : Int) (by omega) (by omega) (by rw [hz2]; omega) (by omega)
  simp only [Int.toNat_natCast, hz1, Nat.mul_one] at h
  refine ⟨_, size_madeCells _ _, fun i hi => ?_, h⟩
  simp [madeCells, hi, Value.cells, Nat.mod_one]
set_option maxRecDepth 100000 in
set_option maxHeartbeats 4000000 in
theorem specPerm_any (sv : Value) (zs : List Int) (m : Nat) (w : World) (h : IntSl w sv zs) (hl : zs.length ≤ 1048576) (hm : m ≤ 1048576) :
    Calls Tryz.prog 24 #[sv, .int .i64 (m : Int)] w fun e w' => e = .returned (.bool (permB zs m)) ∧ Below w.heap.size w w' := by
  obtain ⟨cs0, hcs0, hcz, hmk⟩ := make_boolsP m hm w
  have H := Lib.hid h
  have HOUT := Lib.hid (fun z h1 h2 => permB_out (zs := zs) (n := (m : Int)) (z := z) h1 h2)
  have HDUP := Lib.hid (fun z i j h1 h2 h3 => permB_dup (zs := zs) (n := (m : Int)) (z := z) (i := i) (j := j) h1 h2 h3)
  have HALL := Lib.hid (permB_all (zs := zs) (n := (m : Int)))
  have HTK := Lib.hid (fun k x hx => take_snoc_of zs k x hx)
  have HZ0 := Lib.hid hcz
  obtain ⟨a, c, rfl⟩ := h.len
  generalize permB zs (m : Int) = r at *
  clear h hcz
  go_enter Tryz.func24, Tryz.ntmps24
  go_wp2
  clear hmk
  go_loopw [6] (fun i wr => ∃ k : Nat, k ≤ zs.length ∧ i = .int .i64 k ∧ (∃ cs : Array Value, Blk wr w.heap.size cs 4 ∧ cs.size = m ∧ Hid (∀ q : Nat, q < m → cs[q]? = some (.bool ((zs.take k).contains (q : Int))))) ∧
    Hid ((∀ z ∈ zs.take k, 0 ≤ z ∧ z < m) ∧ ∀ (i j : Nat) z, i < j → j < k → zs[i]? = some z → zs[j]? = some z → False) ∧ Below w.heap.size w wr) (fun i _ => zs.length - (intOf i).toNat)
  case atStart => exact ⟨0, Nat.zero_le _, rfl, ⟨cs0, blkT, hcs0, Lib.hid (fun q hq => by simpa using HZ0.out q hq)⟩, Lib.hid ⟨by simp, by intro i j z h1 h2; omega⟩, blwT⟩
  case round =>
    obtain ⟨k, hk, rfl, ⟨cs, hB, hsz, HC⟩, HK, hb⟩ := hrel
    by_cases hlt : k < zs.length
    · obtain ⟨z, hz⟩ : ∃ z, zs[k]? = some z := ⟨zs[k], List.getElem?_eq_getElem hlt⟩
      rcases H.out with ⟨_, _, _, h2⟩ | ⟨b, off, cap, he, h2, h3, h4⟩
      · rw [h2] at hlt; simp at hlt
      obtain ⟨rfl, rfl⟩ : a = some ⟨b, off, none⟩ ∧ c = cap := by simpa using he
      have c1 := cell_by' hb (h4 k z hz)
      have HZ := Lib.hid hz
      have HS := Lib.hid hsz
      clear hz h4 he h2 h3 hcs0
      have i1 : (0 : Int) ≤ (k : Int) := by omega
      have i2 : (k : Int) < (zs.length : Int) := by omega
      by_cases hin : 0 ≤ z ∧ z < m
      · obtain ⟨q, rfl⟩ : ∃ q : Nat, z = q := ⟨z.toNat, by omega⟩
        have hq : q < m := by omega
        have hinB : inB (q : Int) 0 ((m : Int) - 1) = true := inB_iff.2 (by omega)
        obtain ⟨bb, hbb⟩ : ∃ bb, (zs.take k).contains (q : Int) = bb := ⟨_, rfl⟩
        have d0 := HC.out q hq
        rw [hbb] at d0
        have hBc := hB.cell
        have hBf := hB.free
        have HQS := Lib.hid (show q < cs.size by omega)
        have HBB := Lib.hid hbb
        clear hsz hin hbb
        cases bb with
        | true =>
          go_wp2_with (go_at_call 52; refine (l16In_any _ _ _ _).mono ?_; rintro e w' ⟨rfl, rfl⟩)
          go_ret
          have hmem : (q : Int) ∈ zs.take k := by have := HBB.out; simpa using this
          obtain ⟨j, hj, e⟩ := List.mem_iff_getElem.1 hmem
          have hjk : j < k := by simp at hj; omega
          have hj2 : zs[j]? = some (q : Int) := by
            have : (zs.take k)[j]? = some (q : Int) := by rw [List.getElem?_eq_getElem hj, e]
            rwa [List.getElem?_take_of_lt hjk] at this
          exact ⟨ret_bool (HDUP.out _ j k hjk hj2 HZ.out).symm, hb⟩
        | false =>
          go_wp2_with (go_at_call 52; refine (l16In_any _ _ _ _).mono ?_; rintro e w' ⟨rfl, rfl⟩)
          refine ⟨⟨k + 1, by omega, by go_num, ⟨cs.setIfInBounds q (.bool true), hB.set _ _, by simp [HS.out], Lib.hid (fun p hp => ?_)⟩, Lib.hid ⟨fun z hz => ?_, fun i j z h1 h2 h3 h4 => ?_⟩, blwT⟩, by simp [intOf]; omega⟩
          · rw [Array.getElem?_setIfInBounds, HTK.out k q HZ.out]
            by_cases e : q = p
            · subst e; rw [if_pos rfl, if_pos HQS.out]; simp
            · rw [if_neg e, HC.out p hp]
              congr 2
              rw [Bool.eq_iff_iff]
              simp
              intro e'; omega
          · rw [HTK.out k q HZ.out] at hz
            rcases List.mem_append.1 hz with hz | hz
            · exact HK.out.1 z hz
            · simp at hz; subst hz; omega
          · by_cases e : j = k
            · subst e
              have := HZ.out
              rw [h4] at this
              cases this
              have hm : (q : Int) ∈ zs.take j := by
                refine List.mem_iff_getElem?.2 ⟨i, ?_⟩
                rw [List.getElem?_take_of_lt h1]; exact h3
              have hbb := HBB.out
              rw [show (zs.take j).contains (q : Int) = true by simpa using hm] at hbb
              cases hbb
            · exact HK.out.2 i j z h1 (by omega) h3 h4
      · have hinB : inB z 0 ((m : Int) - 1) = false := by
          cases e : inB z 0 ((m : Int) - 1) with
          | false => rfl
          | true => exact absurd (inB_iff.1 e) (by omega)
        have HIN := Lib.hid hin
        clear hin
        go_wp2_with (go_at_call 52; refine (l16In_any _ _ _ _).mono ?_; rintro e w' ⟨rfl, rfl⟩)
        go_ret
        exact ⟨ret_bool (HOUT.out z (List.mem_of_getElem? HZ.out) HIN.out).symm, hb⟩
    · obtain rfl : k = zs.length := by omega
      have hk := HK.out
      rw [List.take_length] at hk
      have HR := Lib.hid (HALL.out hk.1 (fun i j z h1 h3 h4 => hk.2 i j z h1 (List.getElem?_eq_some_iff.1 h4).1 h3 h4))
      clear hk
      go_wp2
      go_ret
      exact ⟨ret_bool HR.out.symm, hb⟩
set_option maxRecDepth 100000 in
set_option maxHeartbeats 2000000 in
theorem specInv_any (sv : Value) (zs : List Int) (w : World) (h : IntSl w sv zs) (hl : zs.length ≤ 1048576) (hp : permB zs zs.length = true) :
    Calls Tryz.prog 60 #[sv] w fun e w' => ∃ v, e = .returned v ∧ OwnR w' w.heap.size w'.heap.size v (invS zs) ∧ Below w.heap.size w w' := by
  obtain ⟨cs0, hcs0, hcz, hmk⟩ := make_ints zs.length hl w
  have H := Lib.hid h
  have HIN := Lib.hid (permB_iff.1 hp).2.2
  have HI0 : ICs cs0 (invTo zs 0) := by
    intro i z hz
    have hi : i < zs.length := by have := (List.getElem?_eq_some_iff.1 hz).1; rwa [length_invTo] at this
    simp [invTo, hi] at hz
    subst hz
    exact hcz i hi
  have HI := Lib.hid HI0
  have HST := Lib.hid (invTo_step zs)
  have HLI := Lib.hid (length_invTo zs)
  obtain ⟨a, c, rfl⟩ := h.len
  clear h hp hcz HI0
  go_enter Tryz.func60, Tryz.ntmps60
  go_wp2
  clear hmk
  go_loopw [4] (fun i wr => ∃ k : Nat, k ≤ zs.length ∧ i = .int .i64 k ∧ (∃ cs : Array Value, Blk wr w.heap.size cs 2 ∧ cs.size = zs.length ∧ Hid (ICs cs (invTo zs k))) ∧ Below w.heap.size w wr) (fun i _ => zs.length - (intOf i).toNat)
  case atStart => exact ⟨0, Nat.zero_le _, rfl, ⟨cs0, blkT, hcs0, HI⟩, blwT⟩
  case round =>
    obtain ⟨k, hk, rfl, ⟨cs, hB, hsz, hIC⟩, hb⟩ := hrel
    by_cases hlt : k < zs.length
    · obtain ⟨z, hz⟩ : ∃ z, zs[k]? = some z := ⟨zs[k], List.getElem?_eq_getElem hlt⟩
      obtain ⟨hz0, hz1⟩ := HIN.out z (List.mem_of_getElem? hz)
      obtain ⟨q, rfl⟩ : ∃ q : Nat, z = q := ⟨z.toNat, by omega⟩
      rcases H.out with ⟨_, _, _, h2⟩ | ⟨b, off, cap, he, h2, h3, h4⟩
      · rw [h2] at hlt; simp at hlt
      obtain ⟨rfl, rfl⟩ : a = some ⟨b, off, none⟩ ∧ c = cap := by simpa using he
      have c1 := cell_by' hb (h4 k q hz)
      have hin : q < cs.size := by omega
      obtain ⟨u0_, d0⟩ : ∃ u, cs[q]? = some u := ⟨_, Array.getElem?_eq_getElem hin⟩
      have HSZ := Lib.hid hsz
      have HZ := Lib.hid hz
      clear hsz hz h4 he hcs0
      have hBc := hB.cell
      have hBf := hB.free
      have i1 : (0 : Int) ≤ (k : Int) := by omega
      have i2 : (k : Int) < (zs.length : Int) := by omega
      go_wp2
      refine ⟨⟨k + 1, by omega, by go_num, ⟨cs.setIfInBounds q (.int .i64 k), hB.set _ _, by simp [HSZ.out], Lib.hid ?_⟩, blwT⟩, by simp [intOf]; omega⟩
      have hst := HST.out k q HZ.out
      rw [Int.toNat_natCast] at hst
      rw [hst]
      exact hIC.out.set q k
    · obtain rfl : k = zs.length := by omega
      go_wp2
      go_ret
      have hIC' : ICs cs (invS zs) := hIC.out
      have hlb := hB.lt
      have hl2 := HLI.out zs.length
      exact ⟨.slice (some ⟨w.heap.size, 0, none⟩) zs.length zs.length, rfl, .inr ⟨w.heap.size, zs.length, cs, by rw [length_invS], Nat.le_refl _, hlb, by rw [length_invS]; exact Nat.le_refl _, by unfold maxLen; omega, hB, hIC'⟩, hb⟩
def allB (f : Nat → Bool) (n : Nat) : Bool := (List.range n).all f
theorem allB_yes {f : Nat → Bool} {n : Nat} (h : ∀ i, i < n → f i = true) : allB f n = true := by
  simp only [allB, List.all_eq_true, List.mem_range]; exact h
theorem allB_no {f : Nat → Bool} {n i : Nat} (hi : i < n) (h : f i = false) : allB f n = false := by
  simp only [allB, List.all_eq_false, List.mem_range]; exact ⟨i, hi, by simp [h]⟩
def prtAt (ps qs : List Pt) (names : List Int) (i : Nat) : Bool :=
  match ps[i]?, qs[i]? with
  | some p, some q => (p.name.toList == q.name.toList) && decide (nmOf names p.net = q.net)
  | _, _ => false
def isoD (names : List Int) (d e : Dv) : Bool := decide (devcmp d.kind e.kind (normz d.kind (d.pins.map (nmOf names))) (normz e.kind e.pins) d.wd e.wd d.len e.len = 0)
def devAt (ds es : List Dv) (m : List Int × List Int) (i : Nat) : Bool :=
  match ds[i]?, es[(nmOf m.2 i).toNat]? with
  | some d, some e => isoD m.1 d e
  | _, _ => false
def isoB (x y : Nl) (m : List Int × List Int) : Bool :=
  nlB x && (nlB y && (decide (x.nets = y.nets) && (decide (x.ds.length = y.ds.length) && (decide (x.ps.length = y.ps.length) && (permB m.1 x.nets && (permB m.2 x.ds.length && (allB (prtAt x.ps y.ps m.1) x.ps.length && allB (devAt x.ds y.ds m) x.ds.length)))))))
theorem prtAt_of {ps qs : List Pt} {names : List Int} {i : Nat} {p q : Pt} (hp : ps[i]? = some p) (hq : qs[i]? = some q) : prtAt ps qs names i = ((p.name.toList == q.name.toList) && decide (nmOf names p.net = q.net)) := by simp [prtAt, hp, hq]
theorem devAt_of {ds es : List Dv} {m : List Int × List Int} {i j : Nat} {d e : Dv} (hd : ds[i]? = some d) (hj : m.2[i]? = some (j : Int)) (he : es[j]? = some e) : devAt ds es m i = isoD m.1 d e := by
  have h1 : nmOf m.2 (i : Int) = j := by simp [nmOf, List.getD_eq_getElem?_getD, hj]
  simp [devAt, hd, h1, he]
set_option maxRecDepth 100000 in
set_option maxHeartbeats 4000000 in
theorem implNorm_no (kind wd len : Int) (sv : Value) (zs : List Int) (w : World) (h : IntSl w sv zs) (hn : zs.length ≤ 1048576) (hno : ¬ (0 < pinc kind ∧ (zs.length : Int) = pinc kind)) :
    Calls Tryz.prog 22 #[.agg #[.int .i64 kind, sv, .int .i64 wd, .int .i64 len]] w fun e w' => ∃ v, e = .returned (.agg #[.int .i64 kind, v, .int .i64 wd, .int .i64 len]) ∧ OwnI w' w.heap.size v zs ∧ Below w.heap.size w w' := by
  have HC := Lib.hid (fun w h => copyDevice_any kind wd len sv zs w h hn)
  have h1 := h.by (((Below.refl _ w).alloc (Nat.le_refl _) (.cells #[.int .i64 kind, sv, .int .i64 wd, .int .i64 len] 54)).alloc (by simp) (.cells #[.int .i64 0, .slice none 0 0, .int .i64 0, .int .i64 0] 54))
  obtain ⟨a, c, rfl⟩ := h.len
  clear h
  have HP := Lib.hid (fun w => pinCount_any kind w)
  obtain ⟨m, hm⟩ : ∃ m, pinc kind = m := ⟨_, rfl⟩
  have hm0 : 0 ≤ m ∧ m ≤ 3 := by rw [← hm]; unfold pinc; (repeat' split) <;> omega
  rw [hm] at hno HP
  clear hm
  go_enter Tryz.func22, Tryz.ntmps22
  go_wp2_with fail
  refine (HC.out _ h1).mono ?_
  rintro e w1 ⟨v, rfl, hO, hb1⟩
  clear h1
  have k0 : Blk w1 w.heap.size #[.int .i64 kind, .slice a zs.length c, .int .i64 wd, .int .i64 len] 54 := blkT
  have k1 : Blk w1 (w.heap.size + 1) #[.int .i64 0, .slice none 0 0, .int .i64 0, .int .i64 0] 54 := blkT
  have hW : Below w.heap.size w w1 := blwT
  clear hb1
  have c0 := k0.cell
  have f0 := k0.free
  have l0 := k0.lt
  have c1' := k1.cell
  have f1 := k1.free
  have l1 := k1.lt
  obtain ⟨a1, c1, rfl⟩ := hO.len
  simp at hO
  have hO' := hO.alloc (.cells #[.int .i64 kind, .slice a1 zs.length c1, .int .i64 wd, .int .i64 len] 54)
  clear hO
  go_wp2_with fail
  refine (HP.out _).mono ?_
  rintro e w2 ⟨rfl, rfl⟩
  have k3 : Blk (w1.alloc (.cells #[.int .i64 kind, .slice a1 zs.length c1, .int .i64 wd, .int .i64 len] 54)) w1.heap.size #[.int .i64 kind, .slice a1 zs.length c1, .int .i64 wd, .int .i64 len] 54 := Blk.new _ rfl
  replace k0 := k0.past (.cells #[.int .i64 kind, .slice a1 zs.length c1, .int .i64 wd, .int .i64 len] 54)
  replace k1 := k1.past (.cells #[.int .i64 kind, .slice a1 zs.length c1, .int .i64 wd, .int .i64 len] 54)
  replace hW := below_al hW (.cells #[.int .i64 kind, .slice a1 zs.length c1, .int .i64 wd, .int .i64 len] 54)
  clear c0 f0 l0 c1' f1
  generalize w1.heap.size = px at *
  generalize w1.alloc (.cells #[.int .i64 kind, .slice a1 zs.length c1, .int .i64 wd, .int .i64 len] 54) = w2 at *
  have c0 := k0.cell
  have c1' := k1.cell
  have f1 := k1.free
  have c2 := k3.cell
  have f2 := k3.free
  by_cases hpos : 0 < m
  · have hne : decide ((zs.length : Int) = m) = false := decide_eq_false (fun h => hno ⟨hpos, h⟩)
    have hd : decide (0 < m) = true := decide_eq_true hpos
    have hne' : ¬ (zs.length : Int) = m := fun h => hno ⟨hpos, h⟩
    have hne2 : ((zs.length : Int) == m) = false := by simpa using hne'
    clear hno
    go_wp2
    go_quiet (fail)
    go_wp2
    refine bodyPost_ret (v := .agg #[.int .i64 kind, .slice a1 zs.length c1, .int .i64 wd, .int .i64 len]) (by simp [results, Tryz.results22, go_sem, *]) rfl ⟨_, rfl, ?_, blwT⟩
    refine OwnI.low ?_ (show w.heap.size ≤ w.heap.size + 2 by omega)
    repeat (first | (with_reducible exact hO') | (with_reducible refine OwnI.drewN ?_ _) | ((with_reducible refine OwnI.apart ?_ _ _ _ ?_); rotate_left; focus omega))
  · have hd : decide (0 < m) = false := decide_eq_false hpos
    clear hno
    go_wp2
    go_quiet (fail)
    go_wp2
    refine bodyPost_ret (v := .agg #[.int .i64 kind, .slice a1 zs.length c1, .int .i64 wd, .int .i64 len]) (by simp [results, Tryz.results22, go_sem, *]) rfl ⟨_, rfl, ?_, blwT⟩
    refine OwnI.low ?_ (show w.heap.size ≤ w.heap.size + 2 by omega)
    repeat (first | (with_reducible exact hO') | (with_reducible refine OwnI.drewN ?_ _) | ((with_reducible refine OwnI.apart ?_ _ _ _ ?_); rotate_left; focus omega))
set_option maxRecDepth 100000 in
set_option maxHeartbeats 4000000 in
theorem implNorm_two (kind wd len : Int) (sv : Value) (p q : Int) (w : World) (h : IntSl w sv [p, q]) (hk : pinc kind = 2) :
    Calls Tryz.prog 22 #[.agg #[.int .i64 kind, sv, .int .i64 wd, .int .i64 len]] w fun e w' => ∃ v, e = .returned (.agg #[.int .i64 kind, v, .int .i64 wd, .int .i64 len]) ∧ OwnI w' w.heap.size v [min p q, max p q] ∧ Below w.heap.size w w' := by
  have HC := Lib.hid (fun w h => copyDevice_any kind wd len sv [p, q] w h (by simp))
  have h1 := h.by (((Below.refl _ w).alloc (Nat.le_refl _) (.cells #[.int .i64 kind, sv, .int .i64 wd, .int .i64 len] 54)).alloc (by simp) (.cells #[.int .i64 0, .slice none 0 0, .int .i64 0, .int .i64 0] 54))
  rcases h with ⟨_, _, _, h2⟩ | ⟨b, off, cap, hsv, h2, h3, h4⟩
  · simp at h2
  simp only [List.length_cons, List.length_nil, Nat.zero_add, Nat.reduceAdd] at hsv h2
  subst hsv
  clear h4
  have HP := Lib.hid (fun w => pinCount_any kind w)
  rw [hk] at HP
  clear hk
  go_enter Tryz.func22, Tryz.ntmps22
  go_wp2_with fail
  refine (HC.out _ h1).mono ?_
  rintro e w1 ⟨v, rfl, hO, hb1⟩
  clear h1
  have k0 : Blk w1 w.heap.size #[.int .i64 kind, .slice (some ⟨b, off, none⟩) 2 cap, .int .i64 wd, .int .i64 len] 54 := blkT
  have k1 : Blk w1 (w.heap.size + 1) #[.int .i64 0, .slice none 0 0, .int .i64 0, .int .i64 0] 54 := blkT
  have hW : Below w.heap.size w w1 := blwT
  clear hb1
  have c0 := k0.cell
  have f0 := k0.free
  have l0 := k0.lt
  have c1' := k1.cell
  have f1 := k1.free
  have l1 := k1.lt
  rcases hO with ⟨_, _, _, hO⟩ | ⟨g, cap1, cs, hv, hlo, hcap, hmax, hG, hG'⟩
  · simp at hO
  simp only [List.length_cons, List.length_nil, Nat.zero_add, Nat.reduceAdd] at hv hcap
  subst hv
  simp at hlo
  have hgp := hG.lt
  replace hG := hG.past (.cells #[.int .i64 kind, .slice (some ⟨g, 0, none⟩) 2 cap1, .int .i64 wd, .int .i64 len] 54)
  go_wp2_with fail
  refine (HP.out _).mono ?_
  rintro e w2 ⟨rfl, rfl⟩
  have k3 : Blk (w1.alloc (.cells #[.int .i64 kind, .slice (some ⟨g, 0, none⟩) 2 cap1, .int .i64 wd, .int .i64 len] 54)) w1.heap.size #[.int .i64 kind, .slice (some ⟨g, 0, none⟩) 2 cap1, .int .i64 wd, .int .i64 len] 54 := Blk.new _ rfl
  replace k0 := k0.past (.cells #[.int .i64 kind, .slice (some ⟨g, 0, none⟩) 2 cap1, .int .i64 wd, .int .i64 len] 54)
  replace k1 := k1.past (.cells #[.int .i64 kind, .slice (some ⟨g, 0, none⟩) 2 cap1, .int .i64 wd, .int .i64 len] 54)
  replace hW := below_al hW (.cells #[.int .i64 kind, .slice (some ⟨g, 0, none⟩) 2 cap1, .int .i64 wd, .int .i64 len] 54)
  clear c0 f0 l0 c1' f1
  generalize w1.heap.size = px at *
  generalize w1.alloc (.cells #[.int .i64 kind, .slice (some ⟨g, 0, none⟩) 2 cap1, .int .i64 wd, .int .i64 len] 54) = w2 at *
  have c0 := k0.cell
  have c1' := k1.cell
  have f1 := k1.free
  have c2 := k3.cell
  have f2 := k3.free
  have hG0 := hG' 0 p rfl
  have hG1 := hG' 1 q rfl
  have cg := hG.cell
  have fg := hG.free
  have cp : w2.cell? ⟨g, 0, none⟩ = some (.int .i64 p) := (hG.cell 0).trans hG0
  have cq : w2.cell? ⟨g, 1, none⟩ = some (.int .i64 q) := (hG.cell 1).trans hG1
  have wr0 : IntKind.i64.wrap 0 = 0 := by decide
  have wr1 : IntKind.i64.wrap 1 = 1 := by decide
  have wr2 : IntKind.i64.wrap 2 = 2 := by decide
  clear hG'
  by_cases hpq : q < p
  · have hd : decide (q < p) = true := decide_eq_true hpq
    go_wp2
    go_quiet (fail)
    have e1 : min p q = q := by omega
    have e2 : max p q = p := by omega
    have E1 := Lib.hid e1
    have E2 := Lib.hid e2
    clear e1 e2 hpq
    go_wp2_with fail
    replace hG := hG.drewN nq
    replace k1 := k1.drewN nq
    replace k3 := k3.drewN nq
    replace hW := below_drewN hW nq
    clear c0 c1' f1 c2 f2 cg fg cp cq k0
    generalize w2.drewN nq = w3 at *
    have c1' := k1.cell
    have f1 := k1.free
    have c2 := k3.cell
    have f2 := k3.free
    have cp : w3.cell? ⟨g, 0, none⟩ = some (.int .i64 p) := (hG.cell 0).trans hG0
    have cq : w3.cell? ⟨g, 1, none⟩ = some (.int .i64 q) := (hG.cell 1).trans hG1
    have fg := hG.free
    go_region
    have hs0 : 0 < cs.size := by rcases Nat.lt_or_ge 0 cs.size with h | h; exact h; (rw [Array.getElem?_eq_none h] at hG0; cases hG0)
    have hs1 : 1 < cs.size := by rcases Nat.lt_or_ge 1 cs.size with h | h; exact h; (rw [Array.getElem?_eq_none h] at hG1; cases hG1)
    replace hG : Blk (((w3.setCell ⟨g, 0, none⟩ (.int .i64 q)).setCell ⟨g, 1, none⟩ (.int .i64 p)).drew) g ((cs.setIfInBounds 0 (.int .i64 q)).setIfInBounds 1 (.int .i64 p)) 2 := ((hG.set 0 (.int .i64 q)).set 1 (.int .i64 p)).drew
    replace k1 := ((k1.apart g 0 (.int .i64 q) (by omega)).apart g 1 (.int .i64 p) (by omega)).drew
    replace k3 := ((k3.apart g 0 (.int .i64 q) (by omega)).apart g 1 (.int .i64 p) (by omega)).drew
    replace hW : Below w.heap.size w (((w3.setCell ⟨g, 0, none⟩ (.int .i64 q)).setCell ⟨g, 1, none⟩ (.int .i64 p)).drew) := blwT
    skip
    have hA : ((cs.setIfInBounds 0 (.int .i64 q)).setIfInBounds 1 (.int .i64 p))[0]? = some (.int .i64 q) := by rw [Array.getElem?_setIfInBounds_ne (by omega), Array.getElem?_setIfInBounds_self_of_lt hs0]
    have hB : ((cs.setIfInBounds 0 (.int .i64 q)).setIfInBounds 1 (.int .i64 p))[1]? = some (.int .i64 p) := by rw [Array.getElem?_setIfInBounds_self_of_lt (by rw [Array.size_setIfInBounds]; exact hs1)]
    clear c1' f1 c2 f2 cp cq fg hG0 hG1 hs0 hs1
    generalize (cs.setIfInBounds 0 (Value.int .i64 q)).setIfInBounds 1 (Value.int .i64 p) = cs2 at *
    generalize ((w3.setCell ⟨g, 0, none⟩ (.int .i64 q)).setCell ⟨g, 1, none⟩ (.int .i64 p)).drew = w4 at *
    have c1' := k1.cell
    have f1 := k1.free
    have c2 := k3.cell
    have f2 := k3.free
    go_wp2
    refine bodyPost_ret (v := .agg #[.int .i64 kind, .slice (some ⟨g, 0, none⟩) 2 cap1, .int .i64 wd, .int .i64 len]) (by simp [results, Tryz.results22, go_sem, *]) rfl ⟨_, rfl, ?_, blwT⟩
    refine .inr ⟨g, cap1, cs2, rfl, by omega, hcap, hmax, blkT, ?_⟩
    rw [E1.out, E2.out]
    intro i x hx
    match i, hx with
    | 0, hx => obtain rfl := Option.some.inj hx; exact hA
    | 1, hx => obtain rfl := Option.some.inj hx; exact hB
    | (_ + 2), hx => simp at hx
  · have hd : decide (q < p) = false := decide_eq_false hpq
    have e1 : min p q = p := by omega
    have e2 : max p q = q := by omega
    have E1 := Lib.hid e1
    have E2 := Lib.hid e2
    clear e1 e2 hpq
    go_wp2
    go_quiet (fail)
    go_wp2
    refine bodyPost_ret (v := .agg #[.int .i64 kind, .slice (some ⟨g, 0, none⟩) 2 cap1, .int .i64 wd, .int .i64 len]) (by simp [results, Tryz.results22, go_sem, *]) rfl ⟨_, rfl, ?_, blwT⟩
    refine .inr ⟨g, cap1, cs, rfl, by omega, hcap, hmax, blkT, ?_⟩
    rw [E1.out, E2.out]
    intro i x hx
    match i, hx with
    | 0, hx => obtain rfl := Option.some.inj hx; exact hG0
    | 1, hx => obtain rfl := Option.some.inj hx; exact hG1
    | (_ + 2), hx => simp at hx
set_option maxRecDepth 100000 in
set_option maxHeartbeats 4000000 in
theorem implNorm_three (kind wd len : Int) (sv : Value) (r p q : Int) (w : World) (h : IntSl w sv [r, p, q]) (hk : pinc kind = 3) :
    Calls Tryz.prog 22 #[.agg #[.int .i64 kind, sv, .int .i64 wd, .int .i64 len]] w fun e w' => ∃ v, e = .returned (.agg #[.int .i64 kind, v, .int .i64 wd, .int .i64 len]) ∧ OwnI w' w.heap.size v [r, min p q, max p q] ∧ Below w.heap.size w w' := by
  have HC := Lib.hid (fun w h => copyDevice_any kind wd len sv [r, p, q] w h (by simp))
  have h1 := h.by (((Below.refl _ w).alloc (Nat.le_refl _) (.cells #[.int .i64 kind, sv, .int .i64 wd, .int .i64 len] 54)).alloc (by simp) (.cells #[.int .i64 0, .slice none 0 0, .int .i64 0, .int .i64 0] 54))
  rcases h with ⟨_, _, _, h2⟩ | ⟨b, off, cap, hsv, h2, h3, h4⟩
  · simp at h2
  simp only [List.length_cons, List.length_nil, Nat.zero_add, Nat.reduceAdd] at hsv h2
  subst hsv
  clear h4
  have HP := Lib.hid (fun w => pinCount_any kind w)
  rw [hk] at HP
  clear hk
  go_enter Tryz.func22, Tryz.ntmps22
  go_wp2_with fail
  refine (HC.out _ h1).mono ?_
  rintro e w1 ⟨v, rfl, hO, hb1⟩
  clear h1
  have k0 : Blk w1 w.heap.size #[.int .i64 kind, .slice (some ⟨b, off, none⟩) 3 cap, .int .i64 wd, .int .i64 len] 54 := blkT
  have k1 : Blk w1 (w.heap.size + 1) #[.int .i64 0, .slice none 0 0, .int .i64 0, .int .i64 0] 54 := blkT
  have hW : Below w.heap.size w w1 := blwT
  clear hb1
  have c0 := k0.cell
  have f0 := k0.free
  have l0 := k0.lt
  have c1' := k1.cell
  have f1 := k1.free
  have l1 := k1.lt
  rcases hO with ⟨_, _, _, hO⟩ | ⟨g, cap1, cs, hv, hlo, hcap, hmax, hG, hG'⟩
  · simp at hO
  simp only [List.length_cons, List.length_nil, Nat.zero_add, Nat.reduceAdd] at hv hcap
  subst hv
  simp at hlo
  have hgp := hG.lt
  replace hG := hG.past (.cells #[.int .i64 kind, .slice (some ⟨g, 0, none⟩) 3 cap1, .int .i64 wd, .int .i64 len] 54)
  go_wp2_with fail
  refine (HP.out _).mono ?_
  rintro e w2 ⟨rfl, rfl⟩
  have k3 : Blk (w1.alloc (.cells #[.int .i64 kind, .slice (some ⟨g, 0, none⟩) 3 cap1, .int .i64 wd, .int .i64 len] 54)) w1.heap.size #[.int .i64 kind, .slice (some ⟨g, 0, none⟩) 3 cap1, .int .i64 wd, .int .i64 len] 54 := Blk.new _ rfl
  replace k0 := k0.past (.cells #[.int .i64 kind, .slice (some ⟨g, 0, none⟩) 3 cap1, .int .i64 wd, .int .i64 len] 54)
  replace k1 := k1.past (.cells #[.int .i64 kind, .slice (some ⟨g, 0, none⟩) 3 cap1, .int .i64 wd, .int .i64 len] 54)
  replace hW := below_al hW (.cells #[.int .i64 kind, .slice (some ⟨g, 0, none⟩) 3 cap1, .int .i64 wd, .int .i64 len] 54)
  clear c0 f0 l0 c1' f1
  generalize w1.heap.size = px at *
  generalize w1.alloc (.cells #[.int .i64 kind, .slice (some ⟨g, 0, none⟩) 3 cap1, .int .i64 wd, .int .i64 len] 54) = w2 at *
  have c0 := k0.cell
  have c1' := k1.cell
  have f1 := k1.free
  have c2 := k3.cell
  have f2 := k3.free
  have hR := hG' 0 r rfl
  have hG0 := hG' 1 p rfl
  have hG1 := hG' 2 q rfl
  have cg := hG.cell
  have fg := hG.free
  have cp : w2.cell? ⟨g, 1, none⟩ = some (.int .i64 p) := (hG.cell 1).trans hG0
  have cq : w2.cell? ⟨g, 2, none⟩ = some (.int .i64 q) := (hG.cell 2).trans hG1
  have wr0 : IntKind.i64.wrap 0 = 0 := by decide
  have wr1 : IntKind.i64.wrap 1 = 1 := by decide
  have wr2 : IntKind.i64.wrap 2 = 2 := by decide
  clear hG'
  by_cases hpq : q < p
  · have hd : decide (q < p) = true := decide_eq_true hpq
    go_wp2
    go_quiet (fail)
    have e1 : min p q = q := by omega
    have e2 : max p q = p := by omega
    have E1 := Lib.hid e1
    have E2 := Lib.hid e2
    clear e1 e2 hpq
    go_wp2_with fail
    replace hG := hG.drewN nq
    replace k1 := k1.drewN nq
    replace k3 := k3.drewN nq
    replace hW := below_drewN hW nq
    clear c0 c1' f1 c2 f2 cg fg cp cq k0
    generalize w2.drewN nq = w3 at *
    have c1' := k1.cell
    have f1 := k1.free
    have c2 := k3.cell
    have f2 := k3.free
    have cp : w3.cell? ⟨g, 1, none⟩ = some (.int .i64 p) := (hG.cell 1).trans hG0
    have cq : w3.cell? ⟨g, 2, none⟩ = some (.int .i64 q) := (hG.cell 2).trans hG1
    have fg := hG.free
    go_region
    have hs0 : 1 < cs.size := by rcases Nat.lt_or_ge 1 cs.size with h | h; exact h; (rw [Array.getElem?_eq_none h] at hG0; cases hG0)
    have hs1 : 2 < cs.size := by rcases Nat.lt_or_ge 2 cs.size with h | h; exact h; (rw [Array.getElem?_eq_none h] at hG1; cases hG1)
    replace hG : Blk (((w3.setCell ⟨g, 1, none⟩ (.int .i64 q)).setCell ⟨g, 2, none⟩ (.int .i64 p)).drew) g ((cs.setIfInBounds 1 (.int .i64 q)).setIfInBounds 2 (.int .i64 p)) 2 := ((hG.set 1 (.int .i64 q)).set 2 (.int .i64 p)).drew
    replace k1 := ((k1.apart g 1 (.int .i64 q) (by omega)).apart g 2 (.int .i64 p) (by omega)).drew
    replace k3 := ((k3.apart g 1 (.int .i64 q) (by omega)).apart g 2 (.int .i64 p) (by omega)).drew
    replace hW : Below w.heap.size w (((w3.setCell ⟨g, 1, none⟩ (.int .i64 q)).setCell ⟨g, 2, none⟩ (.int .i64 p)).drew) := blwT
    replace hR : ((cs.setIfInBounds 1 (.int .i64 q)).setIfInBounds 2 (.int .i64 p))[0]? = some (.int .i64 r) := by rw [Array.getElem?_setIfInBounds_ne (by omega), Array.getElem?_setIfInBounds_ne (by omega)]; exact hR
    have hA : ((cs.setIfInBounds 1 (.int .i64 q)).setIfInBounds 2 (.int .i64 p))[1]? = some (.int .i64 q) := by rw [Array.getElem?_setIfInBounds_ne (by omega), Array.getElem?_setIfInBounds_self_of_lt hs0]
    have hB : ((cs.setIfInBounds 1 (.int .i64 q)).setIfInBounds 2 (.int .i64 p))[2]? = some (.int .i64 p) := by rw [Array.getElem?_setIfInBounds_self_of_lt (by rw [Array.size_setIfInBounds]; exact hs1)]
    clear c1' f1 c2 f2 cp cq fg hG0 hG1 hs0 hs1
    generalize (cs.setIfInBounds 1 (Value.int .i64 q)).setIfInBounds 2 (Value.int .i64 p) = cs2 at *
    generalize ((w3.setCell ⟨g, 1, none⟩ (.int .i64 q)).setCell ⟨g, 2, none⟩ (.int .i64 p)).drew = w4 at *
    have c1' := k1.cell
    have f1 := k1.free
    have c2 := k3.cell
    have f2 := k3.free
    go_wp2
    refine bodyPost_ret (v := .agg #[.int .i64 kind, .slice (some ⟨g, 0, none⟩) 3 cap1, .int .i64 wd, .int .i64 len]) (by simp [results, Tryz.results22, go_sem, *]) rfl ⟨_, rfl, ?_, blwT⟩
    refine .inr ⟨g, cap1, cs2, rfl, by omega, hcap, hmax, blkT, ?_⟩
    rw [E1.out, E2.out]
    intro i x hx
    match i, hx with
    | 0, hx => obtain rfl := Option.some.inj hx; exact hR
    | 1, hx => obtain rfl := Option.some.inj hx; exact hA
    | 2, hx => obtain rfl := Option.some.inj hx; exact hB
    | (_ + 3), hx => simp at hx
  · have hd : decide (q < p) = false := decide_eq_false hpq
    have e1 : min p q = p := by omega
    have e2 : max p q = q := by omega
    have E1 := Lib.hid e1
    have E2 := Lib.hid e2
    clear e1 e2 hpq
    go_wp2
    go_quiet (fail)
    go_wp2
    refine bodyPost_ret (v := .agg #[.int .i64 kind, .slice (some ⟨g, 0, none⟩) 3 cap1, .int .i64 wd, .int .i64 len]) (by simp [results, Tryz.results22, go_sem, *]) rfl ⟨_, rfl, ?_, blwT⟩
    refine .inr ⟨g, cap1, cs, rfl, by omega, hcap, hmax, blkT, ?_⟩
    rw [E1.out, E2.out]
    intro i x hx
    match i, hx with
    | 0, hx => obtain rfl := Option.some.inj hx; exact hR
    | 1, hx => obtain rfl := Option.some.inj hx; exact hG0
    | 2, hx => obtain rfl := Option.some.inj hx; exact hG1
    | (_ + 3), hx => simp at hx
/- The program's NormalizeDevice: one contract. -/
theorem implNorm_any (kind wd len : Int) (sv : Value) (zs : List Int) (w : World) (h : IntSl w sv zs) (hn : zs.length ≤ 1048576) :
    Calls Tryz.prog 22 #[.agg #[.int .i64 kind, sv, .int .i64 wd, .int .i64 len]] w fun e w' => ∃ v, e = .returned (.agg #[.int .i64 kind, v, .int .i64 wd, .int .i64 len]) ∧ OwnI w' w.heap.size v (normz kind zs) ∧ Below w.heap.size w w' := by
  by_cases hs : 0 < pinc kind ∧ (zs.length : Int) = pinc kind
  · rcases normz_yes hs with ⟨p, q, rfl, hk, e⟩ | ⟨r, p, q, rfl, hk, e⟩
    · rw [e]; exact implNorm_two kind wd len sv p q w h hk
    · rw [e]; exact implNorm_three kind wd len sv r p q w h hk
  · rw [normz_no hs]; exact implNorm_no kind wd len sv zs w h hn hs
set_option maxRecDepth 100000 in
set_option maxHeartbeats 2000000 in
theorem moved_any (x : Dv) (names : List Int) (sx sn : Value) (w : World) (h : IntSl w sx x.pins) (hn : IntSl w sn names) (hxl : x.pins.length ≤ 3) (hxn : x.pins ≠ []) (hxp : ∀ z ∈ x.pins, 0 ≤ z ∧ z < names.length) :
    Calls Tryz.prog 57 #[.agg #[.int .i64 x.kind, sx, .int .i64 x.wd, .int .i64 x.len], sn] w fun e w' => ∃ v, e = .returned (.agg #[.int .i64 x.kind, v, .int .i64 x.wd, .int .i64 x.len]) ∧ IntSl w' v (x.pins.map (nmOf names)) ∧ Below w.heap.size w w' := by
  have HN := Lib.hid hn
  have HX := Lib.hid h
  have HCD := Lib.hid (fun w h => own_any x.kind x.wd x.len sx x.pins w h (by omega))
  have HXN := Lib.hid hxn
  have HXP := Lib.hid hxp
  obtain ⟨ax, cx, rfl⟩ := h.len
  obtain ⟨an, cn, rfl⟩ := hn.len
  clear h hn hxn hxp
  go_enter Tryz.func57, Tryz.ntmps57
  go_wp2_with fail
  refine (HCD.out _ (HX.out.by blwT)).mono ?_
  rintro e w1 ⟨v1, rfl, hOI, hb1⟩
  obtain ⟨fb, hf1, hf2, hOR⟩ := hOI.pin HXN.out
  obtain ⟨gb, capb, csb, rfl, hgb, hcb, hmb, kB0, HIC0⟩ := hOR.cells HXN.out
  have hgf : gb = fb := by omega
  subst hgf
  have kZ : Blk w1 (w.heap.size + 1) #[.int .i64 0, .slice none 0 0, .int .i64 0, .int .i64 0] 54 := blkT
  have hb : Below w.heap.size w w1 := blwT
  have HICH := Lib.hid HIC0
  have hbs := hb1.size
  simp only [World.size_alloc] at hbs hf1
  have lZ := kZ.lt
  obtain ⟨Q, hQ⟩ : ∃ Q, w1.heap.size = Q := ⟨_, rfl⟩
  have HQ := Lib.hid hQ
  have hQl : w.heap.size + 1 < Q := by omega
  have hgQ : gb < Q := by omega
  clear hb1 hOI hOR HIC0 hQ
  go_wp2
  rw [HQ.out]
  have hIC : ICs csb (renTo names x.pins 0) := by rw [renTo_zero]; exact HICH.out
  obtain ⟨wA, hwA⟩ : ∃ wA, wA = w1.alloc (.cells #[.int .i64 x.kind, .slice (some ⟨gb, 0, none⟩) x.pins.length capb, .int .i64 x.wd, .int .i64 x.len] 54) := ⟨_, rfl⟩
  have kD : Blk wA Q #[.int .i64 x.kind, .slice (some ⟨gb, 0, none⟩) x.pins.length capb, .int .i64 x.wd, .int .i64 x.len] 54 := by rw [hwA]; exact Blk.new _ HQ.out.symm
  have kBA : Blk wA gb csb 2 := by rw [hwA]; exact kB0.past _
  have kZA : Blk wA (w.heap.size + 1) #[.int .i64 0, .slice none 0 0, .int .i64 0, .int .i64 0] 54 := by rw [hwA]; exact kZ.past _
  have hbA : Below w.heap.size w wA := by rw [hwA]; exact below_al hb _
  rw [← hwA]
  clear hwA HICH kB0 kZ hb lZ hbs
  go_loopw [6] (fun i wr2 => ∃ m : Nat, m ≤ x.pins.length ∧ i = .int .i64 m ∧ Blk wr2 Q #[.int .i64 x.kind, .slice (some ⟨gb, 0, none⟩) x.pins.length capb, .int .i64 x.wd, .int .i64 x.len] 54 ∧ (∃ cs, Blk wr2 gb cs 2 ∧ Hid (ICs cs (renTo names x.pins m))) ∧ Within gb (gb + 1) wA wr2) (fun i _ => x.pins.length - (intOf i).toNat)
  case atStart => exact ⟨0, Nat.zero_le _, rfl, kD, ⟨csb, kBA, Lib.hid hIC⟩, Within.refl _ _ _⟩
  case round =>
    clear kD kBA hIC
    obtain ⟨m, hm, rfl, kD, ⟨cs, kB, HIC⟩, hW2⟩ := hrel
    have cD := kD.cell
    by_cases hlt2 : m < x.pins.length
    · obtain ⟨z, hz⟩ : ∃ z, x.pins[m]? = some z := ⟨x.pins[m], List.getElem?_eq_getElem hlt2⟩
      obtain ⟨hz0, hz1⟩ := HXP.out z (List.mem_of_getElem? hz)
      have cB := kB.cell
      have fB := kB.free
      have cz := HIC.out m z (renTo_get names x.pins m z hz)
      have hNw := HN.out.by (hW2.below hbA (by omega))
      obtain ⟨q, rfl⟩ : ∃ q : Nat, z = q := ⟨z.toNat, by omega⟩
      rcases hNw with ⟨_, _, _, h2⟩ | ⟨nb, noff, ncap, hen, _, _, hcn⟩
      · rw [h2] at hz1; simp at hz1; omega
      obtain ⟨rfl, rfl⟩ : an = some ⟨nb, noff, none⟩ ∧ cn = ncap := by simpa using hen
      have hq : q < names.length := by omega
      have cn := hcn q names[q] (List.getElem?_eq_getElem hq)
      have hnm : nmOf names (q : Int) = names[q] := by simp [nmOf, hq]
      have HZ := Lib.hid hz
      have HNMq := Lib.hid hnm
      generalize names[q] = y at *
      have j1 : (0 : Int) ≤ (m : Int) := by omega
      have j2 : (m : Int) < (x.pins.length : Int) := by omega
      clear hz hnm hen hcn hq
      go_wp2_with fail
      go_region
      all_goals go_wp2_with fail
      exact ⟨⟨m + 1, by omega, by go_num, (kD.apart gb m _ (by omega)).drew, ⟨cs.setIfInBounds m (.int .i64 y), (kB.set m _).drew, Lib.hid (by rw [← renTo_step names x.pins m q HZ.out, HNMq.out]; exact HIC.out.set m y)⟩, (hW2.set gb m _ (Nat.le_refl _) (by omega)).drewN 1⟩, by simp [intOf]; omega⟩
    · obtain rfl : m = x.pins.length := by omega
      have hIC1 : ICs cs (x.pins.map (nmOf names)) := by have := HIC.out; rwa [renTo_all] at this
      have hOR0 := hIC1.own kB (by rw [List.length_map]; exact hcb) hmb
      rw [List.length_map] at hOR0
      have kZ2 := hW2.blk kZA (by omega)
      have hb2 := hW2.below hbA (by omega)
      have HOR := Lib.hid hOR0
      have qZ := kZ2.cell
      have fZ := kZ2.free
      have lZ := kZ2.lt
      clear hIC1 hOR0 HIC
      go_wp2
      refine bodyPost_ret (v := .agg #[.int .i64 x.kind, .slice (some ⟨gb, 0, none⟩) x.pins.length capb, .int .i64 x.wd, .int .i64 x.len]) (by simp [results, Tryz.results57, go_sem, *]) rfl ⟨_, rfl, ?_, blwT⟩
      exact (((((HOR.out.past (Within.off _) (by omega)).past (Within.off _) (by omega)).past (Within.off _) (by omega)).past (Within.off _) (by omega)) : OwnR _ gb (gb + 1) _ _).sl
set_option maxRecDepth 100000 in
set_option maxHeartbeats 2000000 in
theorem mappedO_any (x : Dv) (names : List Int) (sx sn : Value) (w : World) (h : IntSl w sx x.pins) (hn : IntSl w sn names) (hxl : x.pins.length ≤ 3) (hxn : x.pins ≠ []) (hxp : ∀ z ∈ x.pins, 0 ≤ z ∧ z < names.length) :
    Calls Tryz.prog 21 #[.agg #[.int .i64 x.kind, sx, .int .i64 x.wd, .int .i64 x.len], sn] w fun e w' => ∃ v, e = .returned (.agg #[.int .i64 x.kind, v, .int .i64 x.wd, .int .i64 x.len]) ∧ OwnI w' w.heap.size v (normz x.kind (x.pins.map (nmOf names))) ∧ Below w.heap.size w w' := by
  have HN := Lib.hid hn
  have HX := Lib.hid h
  have HCD := Lib.hid (fun w h => copyDevice_any x.kind x.wd x.len sx x.pins w h (by omega))
  have HXN := Lib.hid hxn
  have HXP := Lib.hid hxp
  have HNM := Lib.hid (fun sv w h => implNorm_any x.kind x.wd x.len sv (x.pins.map (nmOf names)) w h (by simp; omega))
  generalize normz x.kind (x.pins.map (nmOf names)) = NZ at *
  obtain ⟨ax, cx, rfl⟩ := h.len
  obtain ⟨an, cn, rfl⟩ := hn.len
  clear h hn hxn hxp
  go_enter Tryz.func21, Tryz.ntmps21
  go_wp2_with fail
  refine (HCD.out _ (HX.out.by blwT)).mono ?_
  rintro e w1 ⟨v1, rfl, hOI, hb1⟩
  obtain ⟨fb, hf1, hf2, hOR⟩ := hOI.pin HXN.out
  obtain ⟨gb, capb, csb, rfl, hgb, hcb, hmb, kB0, HIC0⟩ := hOR.cells HXN.out
  have hgf : gb = fb := by omega
  subst hgf
  have kZ : Blk w1 (w.heap.size + 1) #[.int .i64 0, .slice none 0 0, .int .i64 0, .int .i64 0] 54 := blkT
  have hb : Below w.heap.size w w1 := blwT
  have HICH := Lib.hid HIC0
  have hbs := hb1.size
  simp only [World.size_alloc] at hbs hf1
  have lZ := kZ.lt
  obtain ⟨Q, hQ⟩ : ∃ Q, w1.heap.size = Q := ⟨_, rfl⟩
  have HQ := Lib.hid hQ
  have hQl : w.heap.size + 1 < Q := by omega
  have hgQ : gb < Q := by omega
  clear hb1 hOI hOR HIC0 hQ
  go_wp2
  rw [HQ.out]
  have hIC : ICs csb (renTo names x.pins 0) := by rw [renTo_zero]; exact HICH.out
  obtain ⟨wA, hwA⟩ : ∃ wA, wA = w1.alloc (.cells #[.int .i64 x.kind, .slice (some ⟨gb, 0, none⟩) x.pins.length capb, .int .i64 x.wd, .int .i64 x.len] 54) := ⟨_, rfl⟩
  have kD : Blk wA Q #[.int .i64 x.kind, .slice (some ⟨gb, 0, none⟩) x.pins.length capb, .int .i64 x.wd, .int .i64 x.len] 54 := by rw [hwA]; exact Blk.new _ HQ.out.symm
  have kBA : Blk wA gb csb 2 := by rw [hwA]; exact kB0.past _
  have kZA : Blk wA (w.heap.size + 1) #[.int .i64 0, .slice none 0 0, .int .i64 0, .int .i64 0] 54 := by rw [hwA]; exact kZ.past _
  have hbA : Below w.heap.size w wA := by rw [hwA]; exact below_al hb _
  rw [← hwA]
  clear hwA HICH kB0 kZ hb lZ hbs
  go_loopw [13] (fun i wr2 => ∃ m : Nat, m ≤ x.pins.length ∧ i = .int .i64 m ∧ Blk wr2 Q #[.int .i64 x.kind, .slice (some ⟨gb, 0, none⟩) x.pins.length capb, .int .i64 x.wd, .int .i64 x.len] 54 ∧ (∃ cs, Blk wr2 gb cs 2 ∧ Hid (ICs cs (renTo names x.pins m))) ∧ Within gb (gb + 1) wA wr2) (fun i _ => x.pins.length - (intOf i).toNat)
  case atStart => exact ⟨0, Nat.zero_le _, rfl, kD, ⟨csb, kBA, Lib.hid hIC⟩, Within.refl _ _ _⟩
  case round =>
    clear kD kBA hIC
    obtain ⟨m, hm, rfl, kD, ⟨cs, kB, HIC⟩, hW2⟩ := hrel
    have cD := kD.cell
    by_cases hlt2 : m < x.pins.length
    · obtain ⟨z, hz⟩ : ∃ z, x.pins[m]? = some z := ⟨x.pins[m], List.getElem?_eq_getElem hlt2⟩
      obtain ⟨hz0, hz1⟩ := HXP.out z (List.mem_of_getElem? hz)
      have cB := kB.cell
      have fB := kB.free
      have cz := HIC.out m z (renTo_get names x.pins m z hz)
      have hNw := HN.out.by (hW2.below hbA (by omega))
      obtain ⟨q, rfl⟩ : ∃ q : Nat, z = q := ⟨z.toNat, by omega⟩
      rcases hNw with ⟨_, _, _, h2⟩ | ⟨nb, noff, ncap, hen, _, _, hcn⟩
      · rw [h2] at hz1; simp at hz1; omega
      obtain ⟨rfl, rfl⟩ : an = some ⟨nb, noff, none⟩ ∧ cn = ncap := by simpa using hen
      have hq : q < names.length := by omega
      have cn := hcn q names[q] (List.getElem?_eq_getElem hq)
      have hnm : nmOf names (q : Int) = names[q] := by simp [nmOf, hq]
      have HZ := Lib.hid hz
      have HNMq := Lib.hid hnm
      generalize names[q] = y at *
      have j1 : (0 : Int) ≤ (m : Int) := by omega
      have j2 : (m : Int) < (x.pins.length : Int) := by omega
      clear hz hnm hen hcn hq
      go_wp2_with fail
      go_region
      all_goals go_wp2_with fail
      exact ⟨⟨m + 1, by omega, by go_num, (kD.apart gb m _ (by omega)).drew, ⟨cs.setIfInBounds m (.int .i64 y), (kB.set m _).drew, Lib.hid (by rw [← renTo_step names x.pins m q HZ.out, HNMq.out]; exact HIC.out.set m y)⟩, (hW2.set gb m _ (Nat.le_refl _) (by omega)).drewN 1⟩, by simp [intOf]; omega⟩
    · obtain rfl : m = x.pins.length := by omega
      have hIC1 : ICs cs (x.pins.map (nmOf names)) := by have := HIC.out; rwa [renTo_all] at this
      have hOR0 := hIC1.own kB (by rw [List.length_map]; exact hcb) hmb
      rw [List.length_map] at hOR0
      have kZ2 := hW2.blk kZA (by omega)
      have hb2 := hW2.below hbA (by omega)
      have HOS := Lib.hid hOR0.sl
      have hZg := kZ2.lt
      clear hIC1 hOR0 HIC
      go_wp2_with fail
      refine (HNM.out _ _ HOS.out).mono ?_
      rintro e w3 ⟨v3, rfl, hO3, hb3⟩
      replace kZ2 := Blk.by hb3 kZ2
      have hb4 := below_on hb3 hb2
      obtain ⟨a3, c3, rfl⟩ := hO3.len
      have HO3 := Lib.hid hO3
      have qZ := kZ2.cell
      have fZ := kZ2.free
      have lZ := kZ2.lt
      have sW := hW2.size
      clear hO3 cD
      go_wp2
      refine bodyPost_ret (v := .agg #[.int .i64 x.kind, .slice a3 NZ.length c3, .int .i64 x.wd, .int .i64 x.len]) (by simp [results, Tryz.results21, go_sem, *]) rfl ⟨_, rfl, ?_, blwT⟩
      refine OwnI.low (lo := wr.heap.size) ?_ (by omega)
      repeat (first | (with_reducible exact HO3.out) | ((with_reducible refine OwnI.apart ?_ _ _ _ ?_); rotate_left; focus omega))
theorem mapped_any (x : Dv) (names : List Int) (sx sn : Value) (w : World) (h : IntSl w sx x.pins) (hn : IntSl w sn names) (hxl : x.pins.length ≤ 3) (hxn : x.pins ≠ []) (hxp : ∀ z ∈ x.pins, 0 ≤ z ∧ z < names.length) :
    Calls Tryz.prog 21 #[.agg #[.int .i64 x.kind, sx, .int .i64 x.wd, .int .i64 x.len], sn] w fun e w' => ∃ v, e = .returned (.agg #[.int .i64 x.kind, v, .int .i64 x.wd, .int .i64 x.len]) ∧ IntSl w' v (normz x.kind (x.pins.map (nmOf names))) ∧ Below w.heap.size w w' := by
  refine (mappedO_any x names sx sn w h hn hxl hxn hxp).mono ?_
  rintro e w' ⟨v, rfl, hO, hb⟩
  exact ⟨v, rfl, hO.sl, hb⟩
set_option maxRecDepth 100000 in
set_option maxHeartbeats 2000000 in
theorem same_any (x y : Dv) (names : List Int) (sx sy sn : Value) (w : World) (h : IntSl w sx x.pins) (h' : IntSl w sy y.pins) (hn : IntSl w sn names) (hxl : x.pins.length ≤ 3) (hxn : x.pins ≠ []) (hxp : ∀ z ∈ x.pins, 0 ≤ z ∧ z < names.length) (hyl : y.pins.length ≤ 3) :
    Calls Tryz.prog 26 #[.agg #[.int .i64 x.kind, sx, .int .i64 x.wd, .int .i64 x.len], .agg #[.int .i64 y.kind, sy, .int .i64 y.wd, .int .i64 y.len], sn] w fun e w' => e = .returned (.bool (isoD names x y)) ∧ Below w.heap.size w w' := by
  have HB := Lib.hid (show isoD names x y = decide (devcmp x.kind y.kind (normz x.kind (x.pins.map (nmOf names))) (normz y.kind y.pins) x.wd y.wd x.len y.len = 0) from rfl)
  have HX := Lib.hid h
  have HY := Lib.hid h'
  have HN := Lib.hid hn
  have HM := Lib.hid (fun w h h' => moved_any x names sx sn w h h' hxl hxn hxp)
  have HN1 := Lib.hid (fun sv w h => specNorm_any x.kind x.wd x.len sv (x.pins.map (nmOf names)) w h (by simp; omega))
  have HN2 := Lib.hid (fun w h => specNorm_any y.kind y.wd y.len sy y.pins w h (by omega))
  have HC := Lib.hid (fun s1 s2 w h h' => specCompareDevices_any x.kind x.wd x.len y.kind y.wd y.len s1 s2 (normz x.kind (x.pins.map (nmOf names))) (normz y.kind y.pins) w h h')
  have hml : (x.pins.map (nmOf names)).length = x.pins.length := List.length_map _
  generalize x.pins.map (nmOf names) = mx at *
  generalize normz x.kind mx = nx at *
  generalize normz y.kind y.pins = ny at *
  generalize devcmp x.kind y.kind nx ny x.wd y.wd x.len y.len = r at *
  generalize isoD names x y = q at *
  obtain ⟨k1, xs, d1, l1⟩ := x
  obtain ⟨k2, ys, d2, l2⟩ := y
  dsimp only at *
  obtain ⟨a, c, rfl⟩ := h.len
  obtain ⟨a', c', rfl⟩ := h'.len
  obtain ⟨an, cn, rfl⟩ := hn.len
  clear h h' hn hml hxn hxp
  go_enter Tryz.func26, Tryz.ntmps26
  go_wp2_with fail
  go_region_held3 ((fun w' => (Blk w' (w.heap.size) #[.int .i64 k1, .slice a xs.length c, .int .i64 d1, .int .i64 l1] 54 ∧ ∀ o, w'.cell? ⟨w.heap.size, o, none⟩ = (#[.int .i64 k1, .slice a xs.length c, .int .i64 d1, .int .i64 l1] : Array Value)[o]?) ∧ (Blk w' (w.heap.size + 1) #[.int .i64 k2, .slice a' ys.length c', .int .i64 d2, .int .i64 l2] 54 ∧ ∀ o, w'.cell? ⟨w.heap.size + 1, o, none⟩ = (#[.int .i64 k2, .slice a' ys.length c', .int .i64 d2, .int .i64 l2] : Array Value)[o]?) ∧ Below w.heap.size w w')) (((try (obtain ⟨⟨hS0, _⟩, ⟨hS1, _⟩, hSB⟩ := hHeld)); refine ⟨Blk.both ?_, Blk.both ?_, ?_⟩ <;> first | ((repeat (first | (with_reducible assumption) | (with_reducible refine Blk.drewN ?_ _) | (with_reducible refine Blk.drew ?_) | ((with_reducible refine Blk.new _ ?_); focus (first | omega | (simp; done) | (simp; omega))) | (with_reducible refine Blk.past ?_ _) | ((with_reducible refine Blk.apart ?_ _ _ _ ?_); rotate_left; focus (first | omega | (simp; done) | (simp; omega))) | (with_reducible refine Blk.by (by assumption) ?_))); done) | ((repeat (first | (with_reducible exact Below.refl _ _) | (with_reducible refine below_drewN ?_ _) | (with_reducible refine Below.drew ?_) | (with_reducible refine below_al ?_ _) | (with_reducible refine below_on (by assumption) ?_) | ((with_reducible refine Below.setCell ?_ ?_ _); rotate_left; focus (first | omega | (simp; done) | (simp; omega))) | (with_reducible assumption))); done)))
    (first | (go_at_call 57; refine (HM.out _ (HX.out.by blwT) (HN.out.by blwT)).mono ?_; rintro e w1 ⟨v1, rfl, hO1, hb1⟩; have HO1 := Lib.hid hO1; obtain ⟨a1, c1, rfl⟩ := hO1.len; clear hO1) | (go_at_call_of 56 (Value.slice a1 mx.length c1); refine (HN1.out _ _ HO1.out).mono ?_; rintro e w2 ⟨v2, rfl, hO2, hb2⟩; have HO2 := Lib.hid hO2.sl; obtain ⟨a2, c2, rfl⟩ := hO2.len; clear hO2) | (go_at_call_of 56 (Value.slice a' ys.length c'); refine (HN2.out _ (HY.out.by blwT)).mono ?_; rintro e w3 ⟨v3, rfl, hO3, hb3⟩; have HO3 := Lib.hid hO3.sl; obtain ⟨a3, c3, rfl⟩ := hO3.len; clear hO3) | (go_at_call 55; refine (HC.out _ _ _ (HO2.out.by hb3) HO3.out).mono ?_; rintro e w4 ⟨rfl, hb4⟩))
  go_wp2
  go_ret
  exact ⟨ret_bool (by rw [HB.out, Bool.eq_iff_iff]; simp), blwT⟩
theorem nlV_parts {w : World} {nets : Int} {s1 s2 : Value} {x : Nl} (h : NlV w (.agg #[.int .i64 nets, s1, s2]) x) : DvSl w s1 x.ds ∧ PtSl w s2 x.ps := by
  obtain ⟨t1, t2, e, h1, h2⟩ := h
  simp at e
  obtain ⟨_, rfl, rfl⟩ := e
  exact ⟨h1, h2⟩
theorem nl_netsI {x : Nl} (h : nlB x = true) : ∀ p ∈ x.ps, 0 ≤ p.net ∧ p.net < x.nets := by
  intro p hp
  obtain ⟨i, hi, e⟩ := List.mem_iff_getElem.1 hp
  have := (nlB_facts h).2.2.2.2 i hi
  have hg : x.ps[i]? = some p := by rw [List.getElem?_eq_getElem hi, e]
  simp only [ptOk, hg, Bool.and_eq_true] at this
  have h2 := inB_iff.1 this.2.1
  omega
set_option maxRecDepth 100000 in
set_option maxHeartbeats 2000000 in
theorem l30Ports_any (x y : Nl) (names : List Int) (v u sn : Value) (w : World) (h : NlV w v x) (h' : NlV w u y) (hn : IntSl w sn names) (hx : ∀ p ∈ x.ps, 0 ≤ p.net ∧ p.net < names.length) (hl : x.ps.length ≤ 1048576) (hl' : y.ps.length ≤ 1048576) :
    Calls Tryz.prog 25 #[v, u, sn] w fun e w' => e = .returned (.bool (decide (x.ps.length = y.ps.length) && allB (prtAt x.ps y.ps names) x.ps.length)) ∧ Below w.heap.size w w' := by
  obtain ⟨s1, s2, rfl, hd, hp⟩ := h
  obtain ⟨t1, t2, rfl, hd', hp'⟩ := h'
  obtain ⟨nets, ds, ps⟩ := x
  obtain ⟨nets', ds', qs⟩ := y
  dsimp only at *
  have HP := Lib.hid hp
  have HQ := Lib.hid hp'
  have HN := Lib.hid hn
  have HPN := Lib.hid hx
  obtain ⟨a1, c1, rfl⟩ := hd.sized
  obtain ⟨a2, c2, rfl⟩ := hp.sized
  obtain ⟨b1, d1, rfl⟩ := hd'.sized
  obtain ⟨b2, d2, rfl⟩ := hp'.sized
  obtain ⟨an, cn, rfl⟩ := hn.len
  clear hd hp hd' hp' hn hx
  by_cases hpq : ps.length = qs.length
  · rw [decide_eq_true hpq, Bool.true_and]
    rw [← hpq] at HQ ⊢
    have HL := Lib.hid hpq
    clear hpq
    have HAY := Lib.hid (@allB_yes (prtAt ps qs names) ps.length)
    have HAN := Lib.hid (fun i h h' => @allB_no (prtAt ps qs names) ps.length i h h')
    generalize allB (prtAt ps qs names) ps.length = r at *
    go_enter Tryz.func25, Tryz.ntmps25
    go_wp2
    go_loopw [7] (fun i wr => ∃ k : Nat, k ≤ ps.length ∧ i = .int .i64 k ∧ Hid (∀ j, j < k → prtAt ps qs names j = true) ∧ Blk wr w.heap.size #[.int .i64 nets, .slice a1 ds.length c1, .slice a2 ps.length c2] 27 ∧ Blk wr (w.heap.size + 1) #[.int .i64 nets', .slice b1 ds'.length d1, .slice b2 ps.length d2] 27 ∧ Below w.heap.size w wr) (fun i _ => ps.length - (intOf i).toNat)
    case atStart => exact ⟨0, Nat.zero_le _, rfl, Lib.hid (by intro j h; omega), blkT, blkT, blwT⟩
    case round =>
      obtain ⟨k, hk, rfl, HI, kA, kB, hb⟩ := hrel
      have qA := kA.cell
      have qB := kB.cell
      by_cases hlt : k < ps.length
      · obtain ⟨p, hp⟩ : ∃ p, ps[k]? = some p := ⟨ps[k], List.getElem?_eq_getElem hlt⟩
        obtain ⟨q, hq⟩ : ∃ q, qs[k]? = some q := ⟨qs[k]'(by rw [← HL.out]; exact hlt), List.getElem?_eq_getElem _⟩
        obtain ⟨hp0, hp1⟩ := HPN.out p (List.mem_of_getElem? hp)
        have hat := prtAt_of (names := names) hp hq
        rcases HP.out with ⟨_, _, _, h2⟩ | ⟨pb, po, pc, he, _, _, h4⟩
        · rw [h2] at hlt; simp at hlt
        obtain ⟨rfl, rfl⟩ : a2 = some ⟨pb, po, none⟩ ∧ c2 = pc := by simpa using he
        rcases HQ.out with ⟨_, _, _, h2⟩ | ⟨qb, qo, qc, he', _, _, h4'⟩
        · rw [h2] at hq; simp at hq
        obtain ⟨rfl, rfl⟩ : b2 = some ⟨qb, qo, none⟩ ∧ d2 = qc := by simpa [HL.out] using he'
        obtain ⟨p1, p2⟩ := (h4 k p hp).by hb
        obtain ⟨q1, q2⟩ := (h4' k q hq).by hb
        obtain ⟨pn, hpn⟩ : ∃ n : Nat, p.net = n := ⟨p.net.toNat, by omega⟩
        rcases HN.out.by hb with ⟨_, _, _, h2⟩ | ⟨nb, no, nc, hen, _, _, hcn⟩
        · rw [h2] at hp1; simp at hp1; omega
        obtain ⟨rfl, rfl⟩ : an = some ⟨nb, no, none⟩ ∧ cn = nc := by simpa using hen
        have hpl : pn < names.length := by omega
        have c3 := hcn pn names[pn] (List.getElem?_eq_getElem hpl)
        have hnm : nmOf names p.net = names[pn] := by simp [nmOf, hpn, hpl]
        rw [hnm] at hat
        rw [hpn] at p2
        generalize names[pn] = z at *
        obtain ⟨name, net⟩ := p
        obtain ⟨name', net'⟩ := q
        dsimp only at *
        have HAT := Lib.hid hat
        have i1 : (0 : Int) ≤ (k : Int) := by omega
        have i2 : (k : Int) < (ps.length : Int) := by omega
        have i3 : (0 : Int) ≤ (pn : Int) := by omega
        have i4 : (pn : Int) < (names.length : Int) := by omega
        clear hp hq hat he he' hen hcn h4 h4' hnm hpn hp0 hp1
        cases hna : (name.toList == name'.toList) with
        | true =>
          rw [hna] at HAT
          by_cases hnz : z = net'
          · subst hnz
            have e3 : (z != z) = false := by simp
            have e4 : (z == z) = true := by simp
            go_wp2
            go_quiet (fail)
            go_wp2
            refine ⟨⟨k + 1, by omega, by go_num, Lib.hid (fun j hj => ?_), blkT, blkT, blwT⟩, by simp [intOf]; omega⟩
            by_cases ej : j = k
            · subst ej; rw [HAT.out]; simp
            · exact HI.out j (by omega)
          · have HZ := Lib.hid hnz
            have e3 : (z != net') = true := by simpa using hnz
            have e4 : (z == net') = false := by simpa using hnz
            have hr := Lib.hid (HAN.out k hlt (by rw [HAT.out]; simp [hnz]))
            clear hnz
            go_wp2
            go_quiet (fail)
            go_wp2
            go_ret
            exact ⟨ret_bool hr.out.symm, blwT⟩
        | false =>
          rw [hna] at HAT
          have hr := Lib.hid (HAN.out k hlt (by rw [HAT.out]; simp))
          go_wp2
          go_quiet (fail)
          go_wp2
          go_ret
          exact ⟨ret_bool hr.out.symm, blwT⟩
      · obtain rfl : k = ps.length := by omega
        have hr := Lib.hid (HAY.out (fun j hj => HI.out j hj))
        go_wp2
        go_ret
        exact ⟨ret_bool hr.out.symm, blwT⟩
  · rw [decide_eq_false hpq, Bool.false_and]
    have e1 : ((ps.length : Int) != (qs.length : Int)) = true := by simp; omega
    have e2 : ((ps.length : Int) == (qs.length : Int)) = false := by simp; omega
    clear hpq
    go_enter Tryz.func25, Tryz.ntmps25
    go_wp2
    go_ret
    exact ⟨rfl, blwT⟩
def OutL (w : World) (r lo hi : Nat) (v : Value) (ls : List (List Int)) : Prop := hi ≤ w.heap.size ∧ ∃ (vs : List Value) (f : Nat → Nat), w.ownsRow lo 30 1 v ls.length vs ∧ vs.length = ls.length ∧ (∀ g, v.ownBlock = some g → lo ≤ g ∧ g < hi) ∧
  (∀ i x s, ls[i]? = some x → vs[i]? = some s → OwnR w (f i) (f i + 1) s x ∧ (r ≤ f i ∧ f i < w.heap.size) ∧ v.ownBlock ≠ some (f i))
section
variable {w w' : World} {r lo hi : Nat} {v : Value} {ls : List (List Int)}
theorem OutL.by (hb : Below w.heap.size w w') (h : OutL w r lo hi v ls) : OutL w' r lo hi v ls := by
  obtain ⟨hs, vs, f, h1, h2, h3, h4⟩ := h
  have hsz := hb.size
  refine ⟨Nat.le_trans hs hb.size, vs, f, row_same h1 (fun g hg => hb.block g (by have := h3 g hg; omega)), h2, h3, fun i x s hx hp => ?_⟩
  obtain ⟨a, b, c⟩ := h4 i x s hx hp
  exact ⟨OwnR.by hb a, by omega, c⟩
theorem OutL.sized (h : OutL w r lo hi v ls) : ∃ a c, v = .slice a ls.length c := by
  obtain ⟨_, vs, f, ⟨_, h1⟩, _⟩ := h
  rcases h1 with ⟨h1, h2⟩ | ⟨g, cap, cur, e1, _⟩
  · exact ⟨none, 0, by rw [h1, h2]⟩
  · exact ⟨_, _, e1⟩
theorem OutL.lit {g : Nat} (h : Blk w g #[] 30) (hlo : lo ≤ g) (hhi : g < hi) (hs : hi ≤ w.heap.size) : OutL w r lo hi (.slice (some ⟨g, 0, none⟩) 0 0) [] :=
  ⟨hs, [], fun _ => 0, ⟨rfl, .inr ⟨g, 0, #[], rfl, hlo, h, Nat.le_refl _, by unfold maxLen; omega, rfl, rfl⟩⟩, rfl, (fun g' hg' => by
    have e : g = g' := by injection hg'
    omega), by intro i x s h; simp at h⟩
theorem OutL.ll (h : OutL w r lo hi v ls) : LlSl w v ls := by
  obtain ⟨hs, vs, f, ⟨hlen, h1⟩, h2, h3, h4⟩ := h
  rcases h1 with ⟨h1, hn⟩ | ⟨g, cap, cur, e1, e2, e3, e4, e5, e6, e7⟩
  · exact .inl ⟨_, _, h1, List.eq_nil_of_length_eq_zero hn⟩
  · refine .inr ⟨g, 0, cap, e1, e4, e5, fun i x hx => ?_⟩
    have hi' : i < ls.length := (List.getElem?_eq_some_iff.1 hx).1
    obtain ⟨s, hsv⟩ : ∃ s, vs[i]? = some s := ⟨vs[i]'(by omega), List.getElem?_eq_getElem (by omega)⟩
    have h6 := hsv
    rw [← e7, List.getElem?_take_of_lt (by omega)] at h6
    have hB : Blk w g cur 30 := e3
    refine ⟨s, ?_, (h4 i x s hx hsv).1.sl⟩
    rw [Nat.zero_add, hB.cell]
    simpa using h6
theorem OutL.low {r' : Nat} (h : OutL w r lo hi v ls) (hr : r' ≤ r) : OutL w r' lo hi v ls := by
  obtain ⟨hs, vs, f, h1, h2, h3, h4⟩ := h
  exact ⟨hs, vs, f, h1, h2, h3, fun i x s hx hp => by
    obtain ⟨a, b, c⟩ := h4 i x s hx hp
    exact ⟨a, by omega, c⟩⟩
end
theorem OutL.wide {w : World} {r lo hi : Nat} {v : Value} {ls : List (List Int)} (h : OutL w r lo hi v ls) : OutL w r lo w.heap.size v ls := by
  obtain ⟨hs, vs, f, h1, h2, h3, h4⟩ := h
  exact ⟨Nat.le_refl _, vs, f, h1, h2, fun g hg => by have := h3 g hg; omega, h4⟩
open Go.Sort (swp PermIn SortedIn SWO size_swp swp_get swp_other swp_left swp_right Ins)
set_option maxRecDepth 100000 in
set_option maxHeartbeats 2000000 in
theorem max_any (sv : Value) (zs : List Int) (w : World) (h : IntSl w sv zs) (hne : zs ≠ []) (hl : zs.length ≤ 1000) :
    Calls Tryz.prog 92 #[sv] w fun e w' => ∃ m, e = .returned (.int .i64 m) ∧ m ∈ zs ∧ (∀ z ∈ zs, z ≤ m) ∧ w = w' := by
  have H := Lib.hid h
  obtain ⟨n, hn⟩ : ∃ n, zs.length = n := ⟨_, rfl⟩
  have hpos : 0 < n := by
    rcases Nat.eq_zero_or_pos n with e | e
    · exact absurd (List.eq_nil_of_length_eq_zero (by omega)) hne
    · exact e
  rcases h with ⟨_, _, _, h2⟩ | ⟨b, off, cap, rfl, _, _, h4⟩
  · exact absurd h2 hne
  have H4 := Lib.hid h4
  have HN := Lib.hid hn
  rw [hn] at hl ⊢
  obtain ⟨z0, hz0⟩ : ∃ z, zs[0]? = some z := ⟨_, List.getElem?_eq_getElem (by omega)⟩
  have c0 := h4 0 z0 hz0
  rw [Nat.add_zero] at c0
  have HZ0 := Lib.hid hz0
  have i0 : ¬ (n : Int) < 1 := by omega
  have i1 : (0 : Int) < (n : Int) := by omega
  have i2 : decide (0 < n) = true := decide_eq_true hpos
  clear h4 hn hne hz0 H
  go_enter Tryz.func92, Tryz.ntmps92
  go_wp2
  go_loopw [3, 4] (fun mv iv wr => ∃ (i : Nat) (m : Int), 1 ≤ i ∧ i ≤ n ∧ mv = .int .i64 m ∧ iv = .int .i64 (i : Int) ∧ Hid (m ∈ zs) ∧ Hid (∀ (j : Nat) z, j < i → zs[j]? = some z → z ≤ m) ∧ w = wr) (fun _ iv _ => n - (intOf iv).toNat)
  case atStart =>
    refine ⟨1, z0, Nat.le_refl _, by omega, rfl, rfl, Lib.hid (List.mem_of_getElem? HZ0.out), Lib.hid (fun j z hj hz => ?_), rfl⟩
    obtain rfl : j = 0 := by omega
    rw [HZ0.out] at hz
    injection hz with hz
    omega
  case round =>
    clear c0 i0 i1 i2
    obtain ⟨i, m, hi1, hi2, rfl, rfl, HM, HA, rfl⟩ := hrel
    by_cases hlt : i < n
    · obtain ⟨z, hz⟩ : ∃ z, zs[i]? = some z := ⟨_, List.getElem?_eq_getElem (by rw [HN.out]; exact hlt)⟩
      have c1 := H4.out i z hz
      have HZ := Lib.hid hz
      have j1 : (i : Int) < (n : Int) := by omega
      have j2 : decide (i < n) = true := decide_eq_true hlt
      clear hz
      have HT := Lib.hid (show (if m < z then z else m) ∈ zs ∧ ∀ (j : Nat) y, j < i + 1 → zs[j]? = some y → y ≤ (if m < z then z else m) from by
        refine ⟨?_, fun j y hj hy => ?_⟩
        · split
          · exact List.mem_of_getElem? HZ.out
          · exact HM.out
        · by_cases e : j = i
          · subst e
            rw [HZ.out] at hy
            injection hy with hy
            split <;> omega
          · have := HA.out j y (by omega) hy
            split <;> omega)
      go_wp2
      exact ⟨⟨i + 1, _, by omega, by omega, rfl, by go_num, Lib.hid (by first | exact HT.out.1 | (rw [show max m z = if m < z then z else m by split <;> omega]; exact HT.out.1)), Lib.hid (by first | exact HT.out.2 | (rw [show max m z = if m < z then z else m by split <;> omega]; exact HT.out.2)), by first | trivial | rfl⟩, by simp [intOf]; omega⟩
    · obtain rfl : n = i := by omega
      have j1 : ¬ (n : Int) < (n : Int) := by omega
      go_wp2
      go_ret
      refine ⟨m, rfl, HM.out, fun z hz => ?_, rfl⟩
      obtain ⟨j, hj, rfl⟩ := List.mem_iff_getElem.1 hz
      exact HA.out j _ (by rw [← HN.out]; exact hj) (List.getElem?_eq_getElem hj)
set_option maxRecDepth 100000 in
set_option maxHeartbeats 2000000 in
theorem containsI_any (sv : Value) (zs : List Int) (k : Int) (w : World) (h : IntSl w sv zs) (hl : zs.length ≤ 1000) :
    Calls Tryz.prog 41 #[sv, .int .i64 k] w fun e w' => e = .returned (.bool (zs.contains k)) ∧ w = w' := by
  obtain ⟨R, hR⟩ : ∃ R, zs.contains k = R := ⟨_, rfl⟩
  rw [hR]
  have HRR := Lib.hid hR
  clear hR
  have hI : Calls Tryz.prog 70 #[sv, .int .i64 k] w fun e w' => (∃ q : Int, e = .returned (.int .i64 q) ∧ decide (0 ≤ q) = R) ∧ w = w' := by
    have H := Lib.hid h
    obtain ⟨a, c, rfl⟩ := h.len
    obtain ⟨n, hn⟩ : ∃ n, zs.length = n := ⟨_, rfl⟩
    rw [hn] at H hl ⊢
    have HN := Lib.hid hn
    have HTK := Lib.hid (show zs.take n = zs from by rw [← hn]; exact List.take_length)
    clear h hn
    go_enter Tryz.func70, Tryz.ntmps70
    go_wp2
    go_loopw [8] (fun iv wr => ∃ i : Nat, i ≤ n ∧ iv = .int .i64 (i : Int) ∧ Hid ((zs.take i).contains k = false) ∧ w = wr) (fun iv _ => n - (intOf iv).toNat)
    case atStart => exact ⟨0, Nat.zero_le _, rfl, Lib.hid (by simp), rfl⟩
    case round =>
      obtain ⟨i, hi, rfl, HF, rfl⟩ := hrel
      by_cases hlt : i < n
      · obtain ⟨z, hz⟩ : ∃ z, zs[i]? = some z := ⟨_, List.getElem?_eq_getElem (by rw [HN.out]; exact hlt)⟩
        have HCS := Lib.hid (show (zs.take (i + 1)).contains k = (z == k) from by
          rw [take_snoc_of zs i z hz]
          have hF := HF.out
          cases hzk : (z == k) with
          | true =>
            rw [List.contains_eq_mem]
            exact decide_eq_true (List.mem_append.2 (.inr (by rw [eq_of_beq hzk]; simp)))
          | false =>
            rw [List.contains_eq_mem] at hF ⊢
            refine decide_eq_false (fun q => ?_)
            rcases List.mem_append.1 q with q | q
            · exact of_decide_eq_false hF q
            · rw [List.mem_singleton] at q; rw [q] at hzk; simp at hzk)
        have HIN := Lib.hid (show z = k → R = true from fun e => by
          rw [← HRR.out, List.contains_eq_mem]
          exact decide_eq_true (by rw [← e]; exact List.mem_of_getElem? hz))
        obtain ⟨nb, no, nc, hen, ln, cns⟩ := H.out.nm (by rw [HN.out]; omega)
        obtain ⟨rfl, rfl⟩ : a = some ⟨nb, no, none⟩ ∧ c = nc := by
          simp only [Value.slice.injEq] at hen
          exact ⟨hen.1, hen.2.2⟩
        have cz := cns i (by rw [HN.out]; exact hlt)
        have e5 : nmOf zs (i : Int) = z := by unfold nmOf; rw [Int.toNat_natCast, List.getD_eq_getElem?_getD, hz]; rfl
        rw [e5] at cz
        have i1 : (i : Int) < (n : Int) := by omega
        have i2 : decide (i < n) = true := decide_eq_true hlt
        clear hen cns e5 hz
        cases hzk : (k == z) with
        | true =>
          have HZ := Lib.hid (HIN.out (eq_of_beq hzk).symm)
          obtain rfl := eq_of_beq hzk
          go_wp2
          go_ret
          exact ⟨⟨_, rfl, by rw [HZ.out]; simp⟩, by first | trivial | rfl⟩
        | false =>
          have hzk' : (z == k) = false := by
            rw [beq_eq_false_iff_ne] at hzk ⊢
            exact fun e => hzk e.symm
          rw [hzk'] at HCS
          go_wp2
          exact ⟨⟨i + 1, by omega, by go_num, HCS, by first | trivial | rfl⟩, by simp [intOf]; omega⟩
      · obtain rfl : n = i := by omega
        have i1 : ¬ (n : Int) < (n : Int) := by omega
        rw [HTK.out] at HF
        have HZ := Lib.hid (show R = false from by rw [← HRR.out]; exact HF.out)
        go_wp2
        go_ret
        exact ⟨⟨_, rfl, by rw [HZ.out]; simp⟩, by first | trivial | rfl⟩
  have HI := Lib.hid hI
  obtain ⟨a, c, rfl⟩ := h.len
  generalize zs.length = n at *
  clear h hI
  go_enter Tryz.func41, Tryz.ntmps41
  go_wp2_with fail
  refine HI.out.mono ?_
  rintro e w1 ⟨⟨q, rfl, hq⟩, rfl⟩
  have HQ := Lib.hid hq
  by_cases hq0 : 0 ≤ q
  · have HR := Lib.hid (show R = true from by rw [← hq]; exact decide_eq_true hq0)
    have e1 : (0 : Int) ≤ q := hq0
    clear hq
    go_wp2
    go_ret
    exact ⟨ret_bool (by rw [HR.out]), rfl⟩
  · have HR := Lib.hid (show R = false from by rw [← hq]; exact decide_eq_false hq0)
    clear hq
    go_wp2
    go_ret
    exact ⟨ret_bool (by rw [HR.out]; exact decide_eq_false (by omega)), rfl⟩
theorem DRow.sl {w : World} {g cap : Nat} {d : Array (Dv × Nat)} (h : DRow w g d) (h1 : d.size ≤ cap) (h2 : cap ≤ maxLen) : DvSl w (.slice (some ⟨g, 0, none⟩) d.size cap) (d.toList.map (·.1)) := by
  obtain ⟨cs, hB, hR⟩ := h
  refine .inr ⟨g, 0, cap, by simp, by simpa using h1, h2, fun i x hx => ?_⟩
  rw [List.getElem?_map] at hx
  obtain ⟨p, hp, rfl⟩ : ∃ p, d.toList[i]? = some p ∧ p.1 = x := by
    cases h : d.toList[i]? with
    | none => rw [h] at hx; simp at hx
    | some t => rw [h] at hx; exact ⟨t, rfl, by simpa using hx⟩
  obtain ⟨hi, hb⟩ := list_getBang d i p hp
  obtain ⟨⟨pv, ⟨q0, q1, q2, q3⟩, a⟩, c⟩ := hR i hi
  rw [hb] at q0 q2 q3 a
  have hc := hB.cell
  simp only [Nat.zero_add]
  exact ⟨pv, (hc _).trans q0, (hc _).trans q1, (hc _).trans q2, (hc _).trans q3, a.sl⟩
set_option maxRecDepth 100000 in
set_option maxHeartbeats 2000000 in
theorem pdqD_any (gf : Nat) (lb : Array Value) (eg : ∀ args w, (callFunc gf args).run Tryz.prog w = .ok (.enter gf args) w) (hc : DCmp gf lb) (g cap : Nat) (lim : Int) (d : Array (Dv × Nat)) (w : World) (h : DRow w g d) (hsz : d.size ≤ 12) (hcap : d.size ≤ cap) :
    Calls Tryz.prog 112 #[.slice (some ⟨g, 0, none⟩) d.size cap, .int .i64 0, .int .i64 d.size, .int .i64 lim, .func (.func gf) #[] lb] w fun e w' =>
      e = .returned (.tuple #[]) ∧ ∃ d', DRow w' g d' ∧ SortedIn dltP 0 d.size d' ∧ PermIn 0 d.size d d' ∧ Within g (g + 1) w w' := by
  have HI := Lib.hid (insSort_any gf lb eg hc g cap 0 d.size d w h (Nat.zero_le _) (Nat.le_refl _) (by omega) hcap)
  have i1 : (d.size : Int) ≤ 12 := by omega
  clear h
  generalize d.size = n at *
  go_enter Tryz.func112, Tryz.ntmps112
  go_wp2
  refine wp_loop_rounds 1 ?_
  rw [rounds_succ]
  go_wp2_with (go_at_call 133; refine HI.out.mono ?_; rintro e w1 ⟨rfl, hR1⟩)
  refine bodyPost_ret (v := .tuple #[]) (by simp [results, Tryz.results112, go_sem, *]) rfl ⟨rfl, hR1⟩
set_option maxRecDepth 100000 in
set_option maxHeartbeats 2000000 in
theorem len64_any (s : Nat) (hs : s ≤ 255) (w : World) :
    Calls Tryz.prog 122 #[.int .u64 (s : Int)] w fun e w' => (∃ q : Int, e = .returned (.int .i64 q)) ∧ w = w' := by
  go_enter Tryz.func122, Tryz.ntmps122
  have i1 : ¬ (s : Int) ≥ 4294967296 := by omega
  have i2 : ¬ (s : Int) ≥ 65536 := by omega
  have i3 : ¬ (s : Int) ≥ 256 := by omega
  go_wp2
  go_ret
  exact ⟨⟨_, rfl⟩, rfl⟩
set_option maxRecDepth 100000 in
set_option maxHeartbeats 2000000 in
theorem lenB_any (s : Nat) (hs : s ≤ 255) (w : World) :
    Calls Tryz.prog 98 #[.int .u64 (s : Int)] w fun e w' => (∃ q : Int, e = .returned (.int .i64 q)) ∧ w = w' := by
  have HL := Lib.hid (fun w => len64_any s hs w)
  go_enter Tryz.func98, Tryz.ntmps98
  go_wp2_with fail
  refine (HL.out _).mono ?_
  rintro e w1 ⟨⟨q, rfl⟩, rfl⟩
  go_wp2
  go_ret
  exact ⟨⟨q, rfl⟩, by first | trivial | rfl⟩
theorem DRow.exc {E : Nat → Prop} {w w' : World} {g : Nat} {d : Array (Dv × Nat)} (h : Exc E w w') (hR : DRow w g d) (hg : ¬ E g) (hE : ∀ k ∈ d.toList.map (·.2), ¬ E k) : DRow w' g d := by
  obtain ⟨cs, hB, hC⟩ := hR
  refine ⟨cs, h.blk hB hg, fun i hi => ?_⟩
  obtain ⟨⟨pv, a, b⟩, c⟩ := hC i hi
  refine ⟨⟨pv, a, OwnR.exc h b (fun k h1 h2 => ?_)⟩, c⟩
  obtain rfl : k = d[i]!.2 := by omega
  refine hE _ (List.mem_map.2 ⟨d[i]!, ?_, rfl⟩)
  rw [getBang d i hi]
  simp
set_option maxRecDepth 100000 in
set_option maxHeartbeats 2000000 in
theorem sortFuncD_any (gf : Nat) (lb : Array Value) (eg : ∀ args w, (callFunc gf args).run Tryz.prog w = .ok (.enter gf args) w) (hc : DCmp gf lb) (g n c : Nat) (L : List Tr) (w : World) (h : RB w g n c L) (hn : n ≤ 12) :
    Calls Tryz.prog 94 #[.slice (some ⟨g, 0, none⟩) n c, .func (.func gf) #[] lb] w fun e w' =>
      e = .returned (.tuple #[]) ∧ (∃ d', DRow w' g d' ∧ d'.size = n ∧ d'.toList.map (·.1) = srtD (L.map (·.1)) ∧ ∀ k ∈ d'.toList.map (·.2), k ∈ L.map (·.2.2)) ∧ Within g (g + 1) w w' := by
  obtain ⟨cur, _, hnc, hcm, _⟩ := h.cells
  have hrow := h.row
  have hsz : (L.map fun t => (t.1, t.2.2)).toArray.size = n := by simp [h.2.1]
  have HS := Lib.hid (fun lim w (hR : DRow w g (L.map fun t => (t.1, t.2.2)).toArray) => pdqD_any gf lb eg hc g c lim _ w hR (by rw [hsz]; exact hn) (by rw [hsz]; exact hnc))
  have HF := Lib.hid (show ∀ d' : Array (Dv × Nat), SortedIn dltP 0 (L.map fun t => (t.1, t.2.2)).toArray.size d' → PermIn 0 (L.map fun t => (t.1, t.2.2)).toArray.size (L.map fun t => (t.1, t.2.2)).toArray d' → d'.size = n ∧ d'.toList.map (·.1) = srtD (L.map (·.1)) ∧ ∀ k ∈ d'.toList.map (·.2), k ∈ L.map (·.2.2) from fun d' hs hp => by
    have hP := PermIn.list hp
    have hz := hp.1
    rw [← hz] at hs
    have e1 : (L.map fun t => (t.1, t.2.2)).toArray.toList.map (·.1) = L.map (·.1) := by simp
    have e2 : (L.map fun t => (t.1, t.2.2)).toArray.toList.map (·.2) = L.map (·.2.2) := by simp
    refine ⟨by rw [hz, hsz], srtD_of (by rw [← e1]; exact hP.map _) (SortedIn.list hs), fun k hk => ?_⟩
    rw [← e2]
    exact (hP.map (·.2)).mem_iff.1 hk)
  have HR := Lib.hid hrow
  generalize (L.map fun t => (t.1, t.2.2)).toArray = d at *
  have HB := Lib.hid (fun w => lenB_any n (by omega) w)
  subst hsz
  have i1 : d.size ≤ 12 := hn
  clear h hrow hnc hcm
  obtain ⟨z, hz⟩ : ∃ z, d.size = z := ⟨_, rfl⟩
  rw [hz] at HS HF HB i1 ⊢
  clear hz hn
  go_enter Tryz.func94, Tryz.ntmps94
  go_wp2_with fail
  refine (HB.out _).mono ?_
  rintro e w1 ⟨⟨q, rfl⟩, rfl⟩
  go_wp2_with fail
  refine (HS.out q _ HR.out).mono ?_
  rintro e w1 ⟨rfl, d', hR1, hS1, hP1, hW1⟩
  obtain ⟨f1, f2, f3⟩ := HF.out d' hS1 hP1
  have HO := Lib.hid (show (∃ d', DRow w1 g d' ∧ d'.size = z ∧ d'.toList.map (·.1) = srtD (L.map (·.1)) ∧ ∀ k ∈ d'.toList.map (·.2), k ∈ L.map (·.2.2)) ∧ Within g (g + 1) w w1 from ⟨⟨d', hR1, f1, f2, f3⟩, hW1⟩)
  clear hR1 hS1 hP1 hW1 f1 f2 f3
  go_wp2
  go_end0
  exact ⟨by rfl, HO.out⟩
theorem OwnPr.ma {w : World} {lo hi : Nat} {v : Value} {x : List Int × List Int} (h : OwnPr w lo hi v x) : MaV w v x := by
  obtain ⟨s1, s2, l1, h1, l2, h2, e, a, b, c⟩ := h; exact ⟨s1, s2, e, a.sl, b.sl⟩
end Go.Proofs.YtehmiekendkjmaaGreat
