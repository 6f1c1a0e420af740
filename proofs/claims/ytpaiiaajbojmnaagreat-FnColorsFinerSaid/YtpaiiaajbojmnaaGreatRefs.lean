/- The refinement step: the plain part. -/
import Derived.Test.YtpaiiaajbojmnaaGreatDsgs
import Derived.Test.YtpaiiaajbojmnaaGreatNetMs
import Derived.Test.YtpaiiaajbojmnaaGreatRank0
import Derived.Test.YtpaiiaajbojmnaaGreatNSigs
import Derived.Test.YtpaiiaajbojmnaaGreatSpecRk
import Derived.Test.YtpaiiaajbojmnaaGreatNetBs
import Derived.Test.YtpaiiaajbojmnaaGreatNetXs
import Derived.Test.YtpaiiaajbojmnaaGreatRankI
namespace Go.Proofs.YtpaiiaajbojmnaaGreat
open Go.RowKit
set_option linter.unusedVariables false
set_option linter.unusedSimpArgs false

/-- The devices' signatures. -/
def dsgLs (x : Nl) (c : List Int × List Int) : List (List Int) := (List.range x.ds.length).map fun k : Nat => dsgL (dAt x.ds k) (nmOf c.2 (k : Int)) c.1
/-- The next coloring. -/
def refS (x : Nl) (c : List Int × List Int) : List Int × List Int := (rankS ((List.range c.1.length).map fun j : Nat => netL' x c (j : Int)), rankS (dsgLs x c))
def refR (x : Nl) (c : List Int × List Int) : List Int × List Int := if coB x c = true then refS x c else ([], [])
theorem dsgL_pos (d : Dv) (k : Int) (cn : List Int) : 0 < (dsgL d k cn).length := by
  unfold dsgL
  rw [List.length_append]
  split <;> simp <;> omega
theorem refS_bounds {x : Nl} {c : List Int × List Int} (h : coB x c = true) : (refS x c).1.length ≤ 24 ∧ (refS x c).2.length ≤ 24 := by
  obtain ⟨h1, h2, h3, h4⟩ := coB_facts h
  simp only [refS, length_rankS, List.length_map, List.length_range, dsgLs]
  omega
theorem refR_bounds (x : Nl) (c : List Int × List Int) : (refR x c).1.length ≤ 1048576 ∧ (refR x c).2.length ≤ 1048576 := by
  unfold refR
  split
  · rename_i h
    have := refS_bounds h
    omega
  · simp
end Go.Proofs.YtpaiiaajbojmnaaGreat

/- The reference's l29Step. -/
namespace Go.Proofs.YtpaiiaajbojmnaaGreat
open Go.RowKit
set_option linter.unusedVariables false
set_option linter.unusedSimpArgs false


set_option maxRecDepth 100000 in
set_option maxHeartbeats 2000000 in
theorem specStep_any (x : Nl) (c : List Int × List Int) (m : Nat) (v u : Value) (w : World) (h : NlV w v x) (hc : CoV w u c) (hm : x.nets = m) (hm24 : m ≤ 24) (hl : x.ds.length ≤ 24) (hcn : c.1.length = m) (hcd : c.2.length = x.ds.length)
    (hp3 : ∀ d ∈ x.ds, d.pins.length ≤ 3) (hshp : ∀ d ∈ x.ds, Shp d ∧ ∀ p ∈ d.pins, 0 ≤ p ∧ p < c.1.length) (hoc : ∀ net, ∀ o ∈ occs x.ds c.2 net x.ds.length, ∃ q r : Nat, q < 24 ∧ r < 3 ∧ o = [(q : Int), (r : Int)]) :
    Calls Tryz.prog 75 #[v, u] w fun e w' => ∃ v', e = .returned v' ∧ OwnPr w' w.heap.size w'.heap.size v' (refS x c) ∧ Below w.heap.size w w' := by
  have HN := Lib.hid h
  have HU := Lib.hid hc
  obtain ⟨Y, hY⟩ : ∃ Y, refS x c = Y := ⟨_, rfl⟩
  rw [hY]
  obtain ⟨NN, hNN⟩ : ∃ Z, ((List.range m).map fun j : Nat => netL' x c (j : Int)) = Z := ⟨_, rfl⟩
  obtain ⟨DD, hDD⟩ : ∃ Z, dsgLs x c = Z := ⟨_, rfl⟩
  have HY := Lib.hid (show (rankS NN, rankS DD) = Y by rw [← hY, ← hNN, ← hDD]; unfold refS; rw [hcn])
  have hNl : NN.length = m := by rw [← hNN]; simp
  have hDl : DD.length = x.ds.length := by rw [← hDD]; simp [dsgLs]
  have HNL := Lib.hid hNl
  have HDL := Lib.hid hDl
  have HNT := Lib.hid (fun k (hk : k < m) => show NN.take (k + 1) = NN.take k ++ [netL' x c (k : Int)] from take_snoc_of NN k _ (by rw [← hNN]; simp [hk]))
  have HDT := Lib.hid (fun k d (hd : x.ds[k]? = some d) => show DD.take (k + 1) = DD.take k ++ [dsgL d (nmOf c.2 (k : Int)) c.1] from take_snoc_of DD k _ (by
    obtain ⟨h1, h2⟩ := List.getElem?_eq_some_iff.1 hd
    rw [← hDD]
    simp [dsgLs, h1, h2, dAt, List.getD_eq_getElem?_getD, hd]))
  have HNP := Lib.hid (fun k : Nat => show 0 < (netL' x c (k : Int)).length by unfold netL'; rw [List.length_append]; simp; omega)
  have HDP := Lib.hid (fun (d : Dv) (k : Int) => show 0 < (dsgL d k c.1).length from dsgL_pos d k c.1)
  have HNV := Lib.hid (fun k (hk : k < m) v u w h h' => specNet_any x c k v u w h h' (by omega) hcd hl hp3)
  have HDV := Lib.hid (fun k d (hd : x.ds[k]? = some d) v u w h h' => l29Device_any x c k d v u w h h' hd (by have := (List.getElem?_eq_some_iff.1 hd).1; omega) (hshp d (List.mem_of_getElem? hd)).1 (hshp d (List.mem_of_getElem? hd)).2 hl (by omega))
  have HR1 := Lib.hid (fun sv w h  => specRanks_any NN sv w h  (by omega))
  have HR2 := Lib.hid (fun sv w h  => specRanks_any DD sv w h  (by omega))
  obtain ⟨a, ca, a', ca', rfl⟩ := h.sized
  obtain ⟨b, cb, b', cb', rfl⟩ := hc.sized
  clear h hc hY hNN hDD hcn hcd hp3 hshp hoc hNl hDl

  rw [hm] at HN ⊢
  clear hm
  go_enter Tryz.func75, Tryz.ntmps75
  go_wp2
  go_loopw [5, 6] (fun s i wr => ∃ (k hi : Nat), k ≤ m ∧ i = .int .i64 k ∧ Hid (BldL wr (w.heap.size + 1 + 1 + 1) hi s (NN.take k)) ∧ w.heap.size + 1 + 1 + 1 < hi ∧ Blk wr w.heap.size #[.int .i64 (m : Int), .slice a x.ds.length ca, .slice a' x.ps.length ca'] 27 ∧ Blk wr (w.heap.size + 1) #[.slice b c.1.length cb, .slice b' c.2.length cb'] 30 ∧ Blk wr (w.heap.size + 1 + 1) #[.slice none 0 0, .slice none 0 0] 30 ∧ Below w.heap.size w wr) (fun _ i _ => m - (intOf i).toNat)
  case atStart =>
    refine ⟨0, w.heap.size + 1 + 1 + 1 + 1, Nat.zero_le _, rfl, Lib.hid ?_, by omega, (by ((repeat (first | (with_reducible assumption) | (with_reducible refine Blk.drewN ?_ _) | (with_reducible refine Blk.drew ?_) | ((with_reducible refine Blk.new _ ?_); focus (first | omega | (simp; done) | (simp; omega))) | (with_reducible refine Blk.past ?_ _) | ((with_reducible refine Blk.apart ?_ _ _ _ ?_); rotate_left; focus (first | omega | (simp; done) | (simp; omega))) | (with_reducible refine Blk.by (by assumption) ?_))); done)), (by ((repeat (first | (with_reducible assumption) | (with_reducible refine Blk.drewN ?_ _) | (with_reducible refine Blk.drew ?_) | ((with_reducible refine Blk.new _ ?_); focus (first | omega | (simp; done) | (simp; omega))) | (with_reducible refine Blk.past ?_ _) | ((with_reducible refine Blk.apart ?_ _ _ _ ?_); rotate_left; focus (first | omega | (simp; done) | (simp; omega))) | (with_reducible refine Blk.by (by assumption) ?_))); done)), (by ((repeat (first | (with_reducible assumption) | (with_reducible refine Blk.drewN ?_ _) | (with_reducible refine Blk.drew ?_) | ((with_reducible refine Blk.new _ ?_); focus (first | omega | (simp; done) | (simp; omega))) | (with_reducible refine Blk.past ?_ _) | ((with_reducible refine Blk.apart ?_ _ _ _ ?_); rotate_left; focus (first | omega | (simp; done) | (simp; omega))) | (with_reducible refine Blk.by (by assumption) ?_))); done)), (by ((repeat (first | (with_reducible exact Below.refl _ _) | (with_reducible refine below_drewN ?_ _) | (with_reducible refine Below.drew ?_) | (with_reducible refine below_al ?_ _) | (with_reducible refine below_on (by assumption) ?_) | ((with_reducible refine Below.setCell ?_ ?_ _); rotate_left; focus (first | omega | (simp; done) | (simp; omega))) | (with_reducible assumption))); done))⟩
    rw [List.take_zero]
    exact BldL.lit (Blk.new _ (by simp)) (Nat.le_refl _) (by omega) (by simp)
  case round =>
    obtain ⟨k, hi, hk, rfl, HB, hhi, kA, kC, kR, hb⟩ := hrel
    obtain ⟨av, cv, rfl⟩ := HB.out.sized
    have hml : (NN.take k).length = k := by rw [List.length_take, HNL.out]; omega
    rw [hml] at HB ⊢
    have HML := Lib.hid hml
    have hhs := HB.out.1
    have qA := kA.cell
    have qC := kC.cell
    have lR := kR.lt
    clear hml
    by_cases hlt : k < m
    · have i1 : (0 : Int) ≤ (k : Int) := by omega
      have i2 : (k : Int) < (m : Int) := by omega
      go_wp2_with fail
      refine (HNV.out k hlt _ _ _ (HN.out.by hb) (HU.out.by hb)).mono ?_
      rintro e w3 ⟨v3, rfl, hO3, hb3⟩
      obtain ⟨f3, ⟨f31, f32⟩, hp3⟩ := hO3.pick' (HNP.out k)
      have HP3 := Lib.hid hp3
      obtain ⟨a3, c3, rfl⟩ := hO3.sl.len
      have hs3 := hb3.size
      have HB3 := Lib.hid (HB.out.by hb3)
      have kA3 := Blk.by hb3 kA
      have kC3 := Blk.by hb3 kC
      have kR3 := Blk.by hb3 kR
      have hbw := below_on hb3 hb
      have HNX := Lib.hid (HNT.out k hlt)
      generalize netL' x c (k : Int) = G at *
      clear hO3 hp3 qA qC HB
      go_wp2_with (refine list_pushL (by rfl) _ _ (by rfl) (w.heap.size + 1 + 1 + 1) hi (.slice av k cv) (NN.take k) (by rfl) (HB3.out.by (by ((repeat (first | (with_reducible exact Below.refl _ _) | (with_reducible refine below_drewN ?_ _) | (with_reducible refine Below.drew ?_) | (with_reducible refine below_al ?_ _) | (with_reducible refine below_on (by assumption) ?_) | ((with_reducible refine Below.setCell ?_ ?_ _); rotate_left; focus (first | omega | (simp; done) | (simp; omega))) | (with_reducible assumption))); done))) w3.heap.size G _ f3 (by rfl) (Blk.new _ rfl) (OwnR.new HP3.out _) (by omega) (by omega) (by simp; omega) (by rw [HML.out]; omega) ?_; intro a5 c5 w5 hB5 hw5; have HB5 := Lib.hid hB5; rw [HML.out]; clear hB5)
      have hsz := hw5.size
      simp only [World.size_alloc] at hsz
      refine ⟨⟨k + 1, w5.heap.size, by omega, by go_num, Lib.hid ?_, by omega, hw5.blk (kA3.past _) (by omega), hw5.blk (kC3.past _) (by omega), hw5.blk (kR3.past _) (by omega), hw5.below (below_al hbw _) (by omega)⟩, by simp [intOf]; omega⟩
      rw [HNX.out]
      have := HB5.out
      rw [HML.out] at this
      exact this
    · obtain rfl : k = m := by omega
      have hLL := HB.out.ll.1
      rw [List.take_of_length_le (by rw [HNL.out]; exact Nat.le_refl _)] at hLL
      have HLL1 := Lib.hid hLL
      obtain ⟨wo, hwo⟩ : ∃ y : World, y = wr := ⟨_, rfl⟩
      subst hwo
      clear HB hLL
      go_wp2
      go_loopw [7, 8] (fun s i wr2 => ∃ (j h2 : Nat), j ≤ x.ds.length ∧ i = .int .i64 j ∧ Hid (BldL wr2 wo.heap.size h2 s (DD.take j)) ∧ wo.heap.size < h2 ∧ Below wo.heap.size wo wr2) (fun _ i _ => x.ds.length - (intOf i).toNat)
      case atStart =>
        refine ⟨0, wo.heap.size + 1, Nat.zero_le _, rfl, Lib.hid ?_, by omega, (by ((repeat (first | (with_reducible exact Below.refl _ _) | (with_reducible refine below_drewN ?_ _) | (with_reducible refine Below.drew ?_) | (with_reducible refine below_al ?_ _) | (with_reducible refine below_on (by assumption) ?_) | ((with_reducible refine Below.setCell ?_ ?_ _); rotate_left; focus (first | omega | (simp; done) | (simp; omega))) | (with_reducible assumption))); done))⟩
        rw [List.take_zero]
        exact BldL.lit (Blk.new _ rfl) (Nat.le_refl _) (by omega) (by simp)
      case round =>
        obtain ⟨j, h2, hj, rfl, HBd, hh2, hb2⟩ := hrel
        obtain ⟨ad, cd, rfl⟩ := HBd.out.sized
        have hml : (DD.take j).length = j := by rw [List.length_take, HDL.out]; omega
        rw [hml] at HBd ⊢
        have HML2 := Lib.hid hml
        have hIs := HBd.out.1
        have hb2s := hb2.size
        have kA2 := Blk.by hb2 kA
        have kC2 := Blk.by hb2 kC
        have kR2 := Blk.by hb2 kR
        have qA2 := kA2.cell
        have qC2 := kC2.cell
        have lA2 := kA2.lt
        have hbw := below_on hb2 hb
        clear qA qC hml
        by_cases hlj : j < x.ds.length
        · obtain ⟨d, hd⟩ : ∃ d, x.ds[j]? = some d := ⟨x.ds[j], List.getElem?_eq_getElem hlj⟩
          have HDX := Lib.hid (HDT.out j d hd)
          have HDC := Lib.hid (HDV.out j d hd)
          have hdp := HDP.out d (nmOf c.2 (j : Int))
          have j1 : (0 : Int) ≤ (j : Int) := by omega
          have j2 : (j : Int) < (x.ds.length : Int) := by omega
          clear hd
          generalize dsgL d (nmOf c.2 (j : Int)) c.1 = G at *
          go_wp2_with fail
          refine (HDC.out _ _ _ (HN.out.by hbw) (HU.out.by hbw)).mono ?_
          rintro e w3 ⟨v3, rfl, hO3, hb3⟩
          obtain ⟨f3, ⟨f31, f32⟩, hp3⟩ := hO3.pick' hdp
          have HP3 := Lib.hid hp3
          obtain ⟨a3, c3, rfl⟩ := hO3.sl.len
          have hs3 := hb3.size
          have HB3 := Lib.hid (HBd.out.by hb3)
          have hb23 := below_on hb3 hb2
          clear hO3 hp3 qA2 qC2 HBd
          go_wp2_with (refine list_pushL (by rfl) _ _ (by rfl) wo.heap.size h2 (.slice ad j cd) (DD.take j) (by rfl) (HB3.out.by (by ((repeat (first | (with_reducible exact Below.refl _ _) | (with_reducible refine below_drewN ?_ _) | (with_reducible refine Below.drew ?_) | (with_reducible refine below_al ?_ _) | (with_reducible refine below_on (by assumption) ?_) | ((with_reducible refine Below.setCell ?_ ?_ _); rotate_left; focus (first | omega | (simp; done) | (simp; omega))) | (with_reducible assumption))); done))) w3.heap.size G _ f3 (by rfl) (Blk.new _ rfl) (OwnR.new HP3.out _) (by omega) (by omega) (by simp; omega) (by rw [HML2.out]; omega) ?_; intro a5 c5 w5 hB5 hw5; have HB5 := Lib.hid hB5; rw [HML2.out]; clear hB5)
          have hsz := hw5.size
          simp only [World.size_alloc] at hsz
          refine ⟨⟨j + 1, w5.heap.size, by omega, by go_num, Lib.hid ?_, by omega, hw5.below (below_al hb23 _) (by omega)⟩, by simp [intOf]; omega⟩
          rw [HDX.out]
          have := HB5.out
          rw [HML2.out] at this
          exact this
        · obtain rfl : j = x.ds.length := by omega
          have hLL2 := HBd.out.ll.1
          rw [List.take_of_length_le (by rw [HDL.out]; exact Nat.le_refl _)] at hLL2
          have HLL2 := Lib.hid hLL2
          have hos := kR.lt
          clear hLL2 HBd
          go_wp2_with fail
          have hLL1 := HLL1.out.by hb2
          obtain ⟨_, _, es⟩ := hLL1.sized
          rw [HNL.out] at es
          refine (HR1.out _ _ hLL1).mono ?_
          rintro e w6 ⟨v6, rfl, hO6, hb6⟩
          have HO6 := Lib.hid hO6
          obtain ⟨a6, c6, rfl⟩ := hO6.sl.len
          rw [length_rankS] at HO6 ⊢
          have hs6 := hb6.size
          clear hO6 es hLL1
          go_wp2_with fail
          refine (HR2.out _ _ (HLL2.out.by hb6)).mono ?_
          rintro e w7 ⟨v7, rfl, hO7, hb7⟩
          have HO7 := Lib.hid hO7
          obtain ⟨a7, c7, rfl⟩ := hO7.sl.len
          rw [length_rankS] at HO7 ⊢
          have hs7 := hb7.size
          have kR7 := Blk.by hb7 (Blk.by hb6 kR2)
          have qR := kR7.cell
          have fR := kR7.free
          have lR := kR7.lt
          have hbw7 := below_on hb7 (below_on hb6 hbw)
          clear hO7 qA2 qC2
          go_wp2
          refine bodyPost_ret (v := .agg #[.slice a6 NN.length c6, .slice a7 DD.length c7]) (by simp [results, Tryz.results75, go_sem, *]) rfl ⟨_, rfl, ?_, (by ((repeat (first | (with_reducible exact Below.refl _ _) | (with_reducible refine below_drewN ?_ _) | (with_reducible refine Below.drew ?_) | (with_reducible refine below_al ?_ _) | (with_reducible refine below_on (by assumption) ?_) | ((with_reducible refine Below.setCell ?_ ?_ _); rotate_left; focus (first | omega | (simp; done) | (simp; omega))) | (with_reducible assumption))); done))⟩
          have hy := HY.out
          rw [← hy]
          refine ⟨_, _, wr.heap.size, w6.heap.size, w6.heap.size, w7.heap.size, rfl, ?_, ?_, ⟨by omega, by simp; omega⟩, ⟨by omega, by simp; try omega⟩, .inl (Nat.le_refl _)⟩
          · exact OwnR.past (Within.off _) (OwnR.past (Within.off _) (OwnR.by hb7 HO6.out) (by omega)) (by omega)
          · exact OwnR.past (Within.off _) (OwnR.past (Within.off _) HO7.out (by omega)) (by omega)
end Go.Proofs.YtpaiiaajbojmnaaGreat

/- The program's refine. -/
namespace Go.Proofs.YtpaiiaajbojmnaaGreat
open Go.RowKit
set_option linter.unusedVariables false
set_option linter.unusedSimpArgs false


set_option maxRecDepth 100000 in
set_option maxHeartbeats 2000000 in
theorem implRefine_any (x : Nl) (c : List Int × List Int) (m : Nat) (v u : Value) (w : World) (h : NlV w v x) (hc : CoV w u c) (hm : x.nets = m) (hm24 : m ≤ 24) (hl : x.ds.length ≤ 24) (hcn : c.1.length = m) (hcd : c.2.length = x.ds.length)
    (hp3 : ∀ d ∈ x.ds, d.pins.length ≤ 3) (hshp : ∀ d ∈ x.ds, Shp d ∧ ∀ p ∈ d.pins, 0 ≤ p ∧ p < c.1.length) (hoc : ∀ net, ∀ o ∈ occs x.ds c.2 net x.ds.length, ∃ q r : Nat, q < 24 ∧ r < 3 ∧ o = [(q : Int), (r : Int)]) :
    Calls Tryz.prog 13 #[v, u] w fun e w' => ∃ v', e = .returned v' ∧ OwnPr w' w.heap.size w'.heap.size v' (refS x c) ∧ Below w.heap.size w w' := by
  have HN := Lib.hid h
  have HU := Lib.hid hc
  obtain ⟨Y, hY⟩ : ∃ Y, refS x c = Y := ⟨_, rfl⟩
  rw [hY]
  obtain ⟨NN, hNN⟩ : ∃ Z, ((List.range m).map fun j : Nat => netL' x c (j : Int)) = Z := ⟨_, rfl⟩
  obtain ⟨DD, hDD⟩ : ∃ Z, dsgLs x c = Z := ⟨_, rfl⟩
  have HY := Lib.hid (show (rankS NN, rankS DD) = Y by rw [← hY, ← hNN, ← hDD]; unfold refS; rw [hcn])
  have hNl : NN.length = m := by rw [← hNN]; simp
  have hDl : DD.length = x.ds.length := by rw [← hDD]; simp [dsgLs]
  have HNL := Lib.hid hNl
  have HDL := Lib.hid hDl
  have HNT := Lib.hid (fun k (hk : k < m) => show NN.take (k + 1) = NN.take k ++ [netL' x c (k : Int)] from take_snoc_of NN k _ (by rw [← hNN]; simp [hk]))
  have HDT := Lib.hid (fun k d (hd : x.ds[k]? = some d) => show DD.take (k + 1) = DD.take k ++ [dsgL d (nmOf c.2 (k : Int)) c.1] from take_snoc_of DD k _ (by
    obtain ⟨h1, h2⟩ := List.getElem?_eq_some_iff.1 hd
    rw [← hDD]
    simp [dsgLs, h1, h2, dAt, List.getD_eq_getElem?_getD, hd]))
  have HNP := Lib.hid (fun k : Nat => show 0 < (netL' x c (k : Int)).length by unfold netL'; rw [List.length_append]; simp; omega)
  have HDP := Lib.hid (fun (d : Dv) (k : Int) => show 0 < (dsgL d k c.1).length from dsgL_pos d k c.1)
  have HNV := Lib.hid (fun v u w h h' => implNets_any x c m v u w h h' hm hm24 hl hcn hcd (fun d hd => ⟨hp3 d hd, fun p hp => by have := (hshp d hd).2 p hp; omega⟩) hoc)
  rw [hNN] at HNV
  have HDV := Lib.hid (fun k d (hd : x.ds[k]? = some d) v u w h h' => dsgDevice_any x c k d v u w h h' hd (by have := (List.getElem?_eq_some_iff.1 hd).1; omega) (hshp d (List.mem_of_getElem? hd)).1 (hshp d (List.mem_of_getElem? hd)).2 hl (by omega))
  have HR1 := Lib.hid (fun sv w h hf => implRanks_any NN sv w h hf (by omega))
  have HR2 := Lib.hid (fun sv w h hf => implRanks_any DD sv w h hf (by omega))
  obtain ⟨a, ca, a', ca', rfl⟩ := h.sized
  obtain ⟨b, cb, b', cb', rfl⟩ := hc.sized
  clear h hc hY hNN hDD hcn hcd hp3 hshp hoc hNl hDl

  rw [hm] at HN ⊢
  clear hm
  go_enter Tryz.func13, Tryz.ntmps13
  go_wp2
  go_loopw [5, 11] (fun s i wr => ∃ (j hi : Nat), j ≤ x.ds.length ∧ i = .int .i64 j ∧ Hid (BldL wr (w.heap.size + 1 + 1 + 1) hi s (DD.take j)) ∧ w.heap.size + 1 + 1 + 1 < hi ∧ Blk wr w.heap.size #[.int .i64 (m : Int), .slice a x.ds.length ca, .slice a' x.ps.length ca'] 27 ∧ Blk wr (w.heap.size + 1) #[.slice b c.1.length cb, .slice b' c.2.length cb'] 30 ∧ Blk wr (w.heap.size + 1 + 1) #[.slice none 0 0, .slice none 0 0] 30 ∧ Below w.heap.size w wr) (fun _ i _ => x.ds.length - (intOf i).toNat)
  case atStart =>
    refine ⟨0, w.heap.size + 1 + 1 + 1 + 1, Nat.zero_le _, rfl, Lib.hid ?_, by omega, (by ((repeat (first | (with_reducible assumption) | (with_reducible refine Blk.drewN ?_ _) | (with_reducible refine Blk.drew ?_) | ((with_reducible refine Blk.new _ ?_); focus (first | omega | (simp; done) | (simp; omega))) | (with_reducible refine Blk.past ?_ _) | ((with_reducible refine Blk.apart ?_ _ _ _ ?_); rotate_left; focus (first | omega | (simp; done) | (simp; omega))) | (with_reducible refine Blk.by (by assumption) ?_))); done)), (by ((repeat (first | (with_reducible assumption) | (with_reducible refine Blk.drewN ?_ _) | (with_reducible refine Blk.drew ?_) | ((with_reducible refine Blk.new _ ?_); focus (first | omega | (simp; done) | (simp; omega))) | (with_reducible refine Blk.past ?_ _) | ((with_reducible refine Blk.apart ?_ _ _ _ ?_); rotate_left; focus (first | omega | (simp; done) | (simp; omega))) | (with_reducible refine Blk.by (by assumption) ?_))); done)), (by ((repeat (first | (with_reducible assumption) | (with_reducible refine Blk.drewN ?_ _) | (with_reducible refine Blk.drew ?_) | ((with_reducible refine Blk.new _ ?_); focus (first | omega | (simp; done) | (simp; omega))) | (with_reducible refine Blk.past ?_ _) | ((with_reducible refine Blk.apart ?_ _ _ _ ?_); rotate_left; focus (first | omega | (simp; done) | (simp; omega))) | (with_reducible refine Blk.by (by assumption) ?_))); done)), (by ((repeat (first | (with_reducible exact Below.refl _ _) | (with_reducible refine below_drewN ?_ _) | (with_reducible refine Below.drew ?_) | (with_reducible refine below_al ?_ _) | (with_reducible refine below_on (by assumption) ?_) | ((with_reducible refine Below.setCell ?_ ?_ _); rotate_left; focus (first | omega | (simp; done) | (simp; omega))) | (with_reducible assumption))); done))⟩
    rw [List.take_zero]
    exact BldL.lit (Blk.new _ (by simp)) (Nat.le_refl _) (by omega) (by simp)
  case round =>
    obtain ⟨j, hi, hj, rfl, HB, hhi, kA, kC, kR, hb⟩ := hrel
    obtain ⟨av, cv, rfl⟩ := HB.out.sized
    have hml : (DD.take j).length = j := by rw [List.length_take, HDL.out]; omega
    rw [hml] at HB ⊢
    have HML := Lib.hid hml
    have hhs := HB.out.1
    have qA := kA.cell
    have qC := kC.cell
    have lR := kR.lt
    clear hml
    by_cases hlj : j < x.ds.length
    · obtain ⟨d, hd⟩ : ∃ d, x.ds[j]? = some d := ⟨x.ds[j], List.getElem?_eq_getElem hlj⟩
      have HDX := Lib.hid (HDT.out j d hd)
      have HDC := Lib.hid (HDV.out j d hd)
      have hdp := HDP.out d (nmOf c.2 (j : Int))
      have j1 : (0 : Int) ≤ (j : Int) := by omega
      have j2 : (j : Int) < (x.ds.length : Int) := by omega
      clear hd
      generalize dsgL d (nmOf c.2 (j : Int)) c.1 = G at *
      go_wp2_with fail
      refine (HDC.out _ _ _ (HN.out.by hb) (HU.out.by hb)).mono ?_
      rintro e w3 ⟨v3, rfl, hO3, hb3⟩
      obtain ⟨f3, ⟨f31, f32⟩, hp3⟩ := hO3.pick' hdp
      have HP3 := Lib.hid hp3
      obtain ⟨a3, c3, rfl⟩ := hO3.sl.len
      have hs3 := hb3.size
      have HB3 := Lib.hid (HB.out.by hb3)
      have kA3 := Blk.by hb3 kA
      have kC3 := Blk.by hb3 kC
      have kR3 := Blk.by hb3 kR
      have hbw := below_on hb3 hb
      clear hO3 hp3 qA qC HB
      go_wp2_with (refine list_pushL (by rfl) _ _ (by rfl) (w.heap.size + 1 + 1 + 1) hi (.slice av j cv) (DD.take j) (by rfl) (HB3.out.by (by ((repeat (first | (with_reducible exact Below.refl _ _) | (with_reducible refine below_drewN ?_ _) | (with_reducible refine Below.drew ?_) | (with_reducible refine below_al ?_ _) | (with_reducible refine below_on (by assumption) ?_) | ((with_reducible refine Below.setCell ?_ ?_ _); rotate_left; focus (first | omega | (simp; done) | (simp; omega))) | (with_reducible assumption))); done))) w3.heap.size G _ f3 (by rfl) (Blk.new _ rfl) (OwnR.new HP3.out _) (by omega) (by omega) (by simp; omega) (by rw [HML.out]; omega) ?_; intro a5 c5 w5 hB5 hw5; have HB5 := Lib.hid hB5; rw [HML.out]; clear hB5)
      have hsz := hw5.size
      simp only [World.size_alloc] at hsz
      refine ⟨⟨j + 1, w5.heap.size, by omega, by go_num, Lib.hid ?_, by omega, hw5.blk (kA3.past _) (by omega), hw5.blk (kC3.past _) (by omega), hw5.blk (kR3.past _) (by omega), hw5.below (below_al hbw _) (by omega)⟩, by simp [intOf]; omega⟩
      rw [HDX.out]
      have := HB5.out
      rw [HML.out] at this
      exact this
    · obtain rfl : j = x.ds.length := by omega
      have hLL := HB.out.ll
      rw [List.take_of_length_le (by rw [HDL.out]; exact Nat.le_refl _)] at hLL
      have HLL := Lib.hid hLL
      clear HB hLL
      go_wp2_with fail
      refine (HNV.out _ _ _ (HN.out.by hb) (HU.out.by hb)).mono ?_
      rintro e w5 ⟨v5, rfl, hB5, hb5⟩
      have HLN := Lib.hid hB5.ll
      have hs5 := hb5.size
      obtain ⟨a5, c5, rfl⟩ := hB5.sized
      clear hB5
      go_wp2_with fail
      refine (HR1.out _ _ HLN.out.1 (HLN.out.2.imp id (fun ⟨b, c, e⟩ => ⟨b, _, c, e⟩))).mono ?_
      rintro e w6 ⟨v6, rfl, hO6, hb6⟩
      have HO6 := Lib.hid hO6
      obtain ⟨a6, c6, rfl⟩ := hO6.sl.len
      rw [length_rankS] at HO6 ⊢
      have hs6 := hb6.size
      have hb56 := below_on hb6 hb5
      clear hO6
      go_wp2_with fail
      refine (HR2.out _ _ (HLL.out.1.by hb56) (HLL.out.2.imp id (fun ⟨b, c, e⟩ => ⟨b, _, c, e⟩))).mono ?_
      rintro e w7 ⟨v7, rfl, hO7, hb7⟩
      have HO7 := Lib.hid hO7
      obtain ⟨a7, c7, rfl⟩ := hO7.sl.len
      rw [length_rankS] at HO7 ⊢
      have hs7 := hb7.size
      have kR7 := Blk.by hb7 (Blk.by hb56 kR)
      have qR := kR7.cell
      have fR := kR7.free
      have lR7 := kR7.lt
      have hbw7 := below_on hb7 (below_on hb56 hb)
      clear hO7 qA qC
      go_wp2
      refine bodyPost_ret (v := .agg #[.slice a6 NN.length c6, .slice a7 DD.length c7]) (by simp [results, Tryz.results13, go_sem, *]) rfl ⟨_, rfl, ?_, (by ((repeat (first | (with_reducible exact Below.refl _ _) | (with_reducible refine below_drewN ?_ _) | (with_reducible refine Below.drew ?_) | (with_reducible refine below_al ?_ _) | (with_reducible refine below_on (by assumption) ?_) | ((with_reducible refine Below.setCell ?_ ?_ _); rotate_left; focus (first | omega | (simp; done) | (simp; omega))) | (with_reducible assumption))); done))⟩
      have hy := HY.out
      rw [← hy]
      refine ⟨_, _, w5.heap.size, w6.heap.size, w6.heap.size, w7.heap.size, rfl, ?_, ?_, ⟨by omega, by simp; omega⟩, ⟨by omega, by simp; try omega⟩, .inl (Nat.le_refl _)⟩
      · exact OwnR.past (Within.off _) (OwnR.past (Within.off _) (OwnR.by hb7 HO6.out) (by omega)) (by omega)
      · exact OwnR.past (Within.off _) (OwnR.past (Within.off _) HO7.out (by omega)) (by omega)
end Go.Proofs.YtpaiiaajbojmnaaGreat

/- RefineStep: the program's and the reference's. -/
namespace Go.Proofs.YtpaiiaajbojmnaaGreat
open Go.RowKit
set_option linter.unusedVariables false
set_option linter.unusedSimpArgs false


set_option maxRecDepth 100000 in
set_option maxHeartbeats 1000000 in
theorem specRef_any (x : Nl) (c : List Int × List Int) (v u : Value) (w : World) (h : NlV w v x) (hc : CoV w u c) (hok : ∀ p ∈ x.ps, p.ok) (hnn : Fits x.nets) :
    Calls Tryz.prog 49 #[v, u] w fun e w' => ∃ v', e = .returned (.tuple #[v', .bool (coB x c)]) ∧ OwnPr w' w.heap.size w'.heap.size v' (refR x c) ∧ Below w.heap.size w w' := by
  have HV := Lib.hid (fun v u w h h' => specIsColoring_any x c v u w h h' hok hnn)
  have HN := Lib.hid h
  have HU := Lib.hid hc
  obtain ⟨Y, hY⟩ : ∃ Y, refR x c = Y := ⟨_, rfl⟩
  rw [hY]
  unfold refR at hY
  obtain ⟨a, ca, a', ca', rfl⟩ := h.sized
  obtain ⟨b, cb, b', cb', rfl⟩ := hc.sized
  cases hb : coB x c with
  | false =>
    rw [hb] at HV hY
    have HY := Lib.hid (show ([], []) = Y by simpa using hY)
    clear h hc hok hnn hb hY
    go_enter Tryz.func49, Tryz.ntmps49
    go_wp2_with fail
    refine (HV.out _ _ _ (HN.out.by (by ((repeat (first | (with_reducible exact Below.refl _ _) | (with_reducible refine below_drewN ?_ _) | (with_reducible refine Below.drew ?_) | (with_reducible refine below_al ?_ _) | (with_reducible refine below_on (by assumption) ?_) | ((with_reducible refine Below.setCell ?_ ?_ _); rotate_left; focus (first | omega | (simp; done) | (simp; omega))) | (with_reducible assumption))); done))) (HU.out.by (by ((repeat (first | (with_reducible exact Below.refl _ _) | (with_reducible refine below_drewN ?_ _) | (with_reducible refine Below.drew ?_) | (with_reducible refine below_al ?_ _) | (with_reducible refine below_on (by assumption) ?_) | ((with_reducible refine Below.setCell ?_ ?_ _); rotate_left; focus (first | omega | (simp; done) | (simp; omega))) | (with_reducible assumption))); done)))).mono ?_
    rintro e w1 ⟨rfl, hb1⟩
    have kR : Blk w1 (w.heap.size + 1 + 1) #[.slice none 0 0, .slice none 0 0] 30 := (by ((repeat (first | (with_reducible assumption) | (with_reducible refine Blk.drewN ?_ _) | (with_reducible refine Blk.drew ?_) | ((with_reducible refine Blk.new _ ?_); focus (first | omega | (simp; done) | (simp; omega))) | (with_reducible refine Blk.past ?_ _) | ((with_reducible refine Blk.apart ?_ _ _ _ ?_); rotate_left; focus (first | omega | (simp; done) | (simp; omega))) | (with_reducible refine Blk.by (by assumption) ?_))); done))
    have hW : Below w.heap.size w w1 := (by ((repeat (first | (with_reducible exact Below.refl _ _) | (with_reducible refine below_drewN ?_ _) | (with_reducible refine Below.drew ?_) | (with_reducible refine below_al ?_ _) | (with_reducible refine below_on (by assumption) ?_) | ((with_reducible refine Below.setCell ?_ ?_ _); rotate_left; focus (first | omega | (simp; done) | (simp; omega))) | (with_reducible assumption))); done))
    have qR := kR.cell
    have fR := kR.free
    have lR := kR.lt
    clear hb1
    go_wp2
    refine bodyPost_ret (v := .tuple #[.agg #[.slice none 0 0, .slice none 0 0], .bool false]) (by simp [results, Tryz.results49, go_sem, *]) rfl ⟨_, rfl, ?_, (by ((repeat (first | (with_reducible exact Below.refl _ _) | (with_reducible refine below_drewN ?_ _) | (with_reducible refine Below.drew ?_) | (with_reducible refine below_al ?_ _) | (with_reducible refine below_on (by assumption) ?_) | ((with_reducible refine Below.setCell ?_ ?_ _); rotate_left; focus (first | omega | (simp; done) | (simp; omega))) | (with_reducible assumption))); done))⟩
    rw [← HY.out]
    exact ⟨_, _, w.heap.size, w.heap.size, w.heap.size, w.heap.size, rfl, .inl ⟨_, _, rfl, rfl⟩, .inl ⟨_, _, rfl, rfl⟩, by (refine ⟨?_, ?_⟩ <;> simp; try omega), by (refine ⟨?_, ?_⟩ <;> simp; try omega), .inl (Nat.le_refl _)⟩
  | true =>
    obtain ⟨f1, f2, f3, f4⟩ := coB_facts hb
    obtain ⟨g1, g2, g3, g4⟩ := coB_nets hb
    have HI := Lib.hid (fun v u w h h' => specStep_any x c c.1.length v u w h h' (by omega) f2 f1 rfl f3 g3 f4 (occs_ok hb))
    rw [hb] at HV hY
    have HY := Lib.hid (show refS x c = Y by simpa using hY)
    clear h hc hok hnn hb hY f1 f2 f3 f4 g1 g2 g3 g4
    go_enter Tryz.func49, Tryz.ntmps49
    go_wp2_with fail
    refine (HV.out _ _ _ (HN.out.by (by ((repeat (first | (with_reducible exact Below.refl _ _) | (with_reducible refine below_drewN ?_ _) | (with_reducible refine Below.drew ?_) | (with_reducible refine below_al ?_ _) | (with_reducible refine below_on (by assumption) ?_) | ((with_reducible refine Below.setCell ?_ ?_ _); rotate_left; focus (first | omega | (simp; done) | (simp; omega))) | (with_reducible assumption))); done))) (HU.out.by (by ((repeat (first | (with_reducible exact Below.refl _ _) | (with_reducible refine below_drewN ?_ _) | (with_reducible refine Below.drew ?_) | (with_reducible refine below_al ?_ _) | (with_reducible refine below_on (by assumption) ?_) | ((with_reducible refine Below.setCell ?_ ?_ _); rotate_left; focus (first | omega | (simp; done) | (simp; omega))) | (with_reducible assumption))); done)))).mono ?_
    rintro e w1 ⟨rfl, hb1⟩
    have kA : Blk w1 w.heap.size #[.int .i64 x.nets, .slice a x.ds.length ca, .slice a' x.ps.length ca'] 27 := (by ((repeat (first | (with_reducible assumption) | (with_reducible refine Blk.drewN ?_ _) | (with_reducible refine Blk.drew ?_) | ((with_reducible refine Blk.new _ ?_); focus (first | omega | (simp; done) | (simp; omega))) | (with_reducible refine Blk.past ?_ _) | ((with_reducible refine Blk.apart ?_ _ _ _ ?_); rotate_left; focus (first | omega | (simp; done) | (simp; omega))) | (with_reducible refine Blk.by (by assumption) ?_))); done))
    have kC : Blk w1 (w.heap.size + 1) #[.slice b c.1.length cb, .slice b' c.2.length cb'] 30 := (by ((repeat (first | (with_reducible assumption) | (with_reducible refine Blk.drewN ?_ _) | (with_reducible refine Blk.drew ?_) | ((with_reducible refine Blk.new _ ?_); focus (first | omega | (simp; done) | (simp; omega))) | (with_reducible refine Blk.past ?_ _) | ((with_reducible refine Blk.apart ?_ _ _ _ ?_); rotate_left; focus (first | omega | (simp; done) | (simp; omega))) | (with_reducible refine Blk.by (by assumption) ?_))); done))
    have kR : Blk w1 (w.heap.size + 1 + 1) #[.slice none 0 0, .slice none 0 0] 30 := (by ((repeat (first | (with_reducible assumption) | (with_reducible refine Blk.drewN ?_ _) | (with_reducible refine Blk.drew ?_) | ((with_reducible refine Blk.new _ ?_); focus (first | omega | (simp; done) | (simp; omega))) | (with_reducible refine Blk.past ?_ _) | ((with_reducible refine Blk.apart ?_ _ _ _ ?_); rotate_left; focus (first | omega | (simp; done) | (simp; omega))) | (with_reducible refine Blk.by (by assumption) ?_))); done))
    have hW : Below w.heap.size w w1 := (by ((repeat (first | (with_reducible exact Below.refl _ _) | (with_reducible refine below_drewN ?_ _) | (with_reducible refine Below.drew ?_) | (with_reducible refine below_al ?_ _) | (with_reducible refine below_on (by assumption) ?_) | ((with_reducible refine Below.setCell ?_ ?_ _); rotate_left; focus (first | omega | (simp; done) | (simp; omega))) | (with_reducible assumption))); done))
    have qA := kA.cell
    have qC := kC.cell
    clear hb1
    go_wp2_with fail
    refine (HI.out _ _ _ (HN.out.by hW) (HU.out.by hW)).mono ?_
    rintro e w2 ⟨v2, rfl, hO, hb2⟩
    rw [HY.out] at hO
    obtain ⟨s1, s2, l1, h1, l2, h2, rfl, hO1, hO2, q1, q2, q3⟩ := hO
    have lR1 := kR.lt
    replace kR := Blk.by hb2 kR
    replace hW := below_on hb2 hW
    obtain ⟨a1, c1, rfl⟩ := hO1.sl.len
    obtain ⟨a2, c2, rfl⟩ := hO2.sl.len
    have HO1 := Lib.hid hO1
    have HO2 := Lib.hid hO2
    have qR := kR.cell
    have fR := kR.free
    have lR := kR.lt
    clear hb2 qA qC hO1 hO2
    obtain ⟨n1, hn1⟩ : ∃ n, Y.1.length = n := ⟨_, rfl⟩
    obtain ⟨n2, hn2⟩ : ∃ n, Y.2.length = n := ⟨_, rfl⟩
    have HN1 := Lib.hid hn1
    have HN2 := Lib.hid hn2
    rw [hn1] at HO1 ⊢
    rw [hn2] at HO2 ⊢
    clear hn1 hn2
    go_wp2
    refine bodyPost_ret (v := .tuple #[.agg #[.slice a1 n1 c1, .slice a2 n2 c2], .bool true]) (by simp [results, Tryz.results49, go_sem, *]) rfl ⟨_, rfl, ⟨_, _, l1, h1, l2, h2, rfl, ?_, ?_, ⟨by omega, by simp; omega⟩, ⟨by omega, by simp; omega⟩, q3⟩, (by ((repeat (first | (with_reducible exact Below.refl _ _) | (with_reducible refine below_drewN ?_ _) | (with_reducible refine Below.drew ?_) | (with_reducible refine below_al ?_ _) | (with_reducible refine below_on (by assumption) ?_) | ((with_reducible refine Below.setCell ?_ ?_ _); rotate_left; focus (first | omega | (simp; done) | (simp; omega))) | (with_reducible assumption))); done))⟩
    · exact OwnR.past (Within.off _) (OwnR.past (Within.off _) HO1.out (by omega)) (by omega)
    · exact OwnR.past (Within.off _) (OwnR.past (Within.off _) HO2.out (by omega)) (by omega)


set_option maxRecDepth 100000 in
set_option maxHeartbeats 1000000 in
theorem implRef_any (x : Nl) (c : List Int × List Int) (v u : Value) (w : World) (h : NlV w v x) (hc : CoV w u c) (hok : ∀ p ∈ x.ps, p.ok) (hnn : Fits x.nets) :
    Calls Tryz.prog 6 #[v, u] w fun e w' => ∃ v', e = .returned (.tuple #[v', .bool (coB x c)]) ∧ OwnPr w' w.heap.size w'.heap.size v' (refR x c) ∧ Below w.heap.size w w' := by
  have HV := Lib.hid (fun v u w h h' => implIsColoring_any x c v u w h h' hok hnn)
  have HN := Lib.hid h
  have HU := Lib.hid hc
  obtain ⟨Y, hY⟩ : ∃ Y, refR x c = Y := ⟨_, rfl⟩
  rw [hY]
  unfold refR at hY
  obtain ⟨a, ca, a', ca', rfl⟩ := h.sized
  obtain ⟨b, cb, b', cb', rfl⟩ := hc.sized
  cases hb : coB x c with
  | false =>
    rw [hb] at HV hY
    have HY := Lib.hid (show ([], []) = Y by simpa using hY)
    clear h hc hok hnn hb hY
    go_enter Tryz.func6, Tryz.ntmps6
    go_wp2_with fail
    refine (HV.out _ _ _ (HN.out.by (by ((repeat (first | (with_reducible exact Below.refl _ _) | (with_reducible refine below_drewN ?_ _) | (with_reducible refine Below.drew ?_) | (with_reducible refine below_al ?_ _) | (with_reducible refine below_on (by assumption) ?_) | ((with_reducible refine Below.setCell ?_ ?_ _); rotate_left; focus (first | omega | (simp; done) | (simp; omega))) | (with_reducible assumption))); done))) (HU.out.by (by ((repeat (first | (with_reducible exact Below.refl _ _) | (with_reducible refine below_drewN ?_ _) | (with_reducible refine Below.drew ?_) | (with_reducible refine below_al ?_ _) | (with_reducible refine below_on (by assumption) ?_) | ((with_reducible refine Below.setCell ?_ ?_ _); rotate_left; focus (first | omega | (simp; done) | (simp; omega))) | (with_reducible assumption))); done)))).mono ?_
    rintro e w1 ⟨rfl, hb1⟩
    have kR : Blk w1 (w.heap.size + 1 + 1) #[.slice none 0 0, .slice none 0 0] 30 := (by ((repeat (first | (with_reducible assumption) | (with_reducible refine Blk.drewN ?_ _) | (with_reducible refine Blk.drew ?_) | ((with_reducible refine Blk.new _ ?_); focus (first | omega | (simp; done) | (simp; omega))) | (with_reducible refine Blk.past ?_ _) | ((with_reducible refine Blk.apart ?_ _ _ _ ?_); rotate_left; focus (first | omega | (simp; done) | (simp; omega))) | (with_reducible refine Blk.by (by assumption) ?_))); done))
    have hW : Below w.heap.size w w1 := (by ((repeat (first | (with_reducible exact Below.refl _ _) | (with_reducible refine below_drewN ?_ _) | (with_reducible refine Below.drew ?_) | (with_reducible refine below_al ?_ _) | (with_reducible refine below_on (by assumption) ?_) | ((with_reducible refine Below.setCell ?_ ?_ _); rotate_left; focus (first | omega | (simp; done) | (simp; omega))) | (with_reducible assumption))); done))
    have qR := kR.cell
    have fR := kR.free
    have lR := kR.lt
    clear hb1
    go_wp2
    refine bodyPost_ret (v := .tuple #[.agg #[.slice none 0 0, .slice none 0 0], .bool false]) (by simp [results, Tryz.results6, go_sem, *]) rfl ⟨_, rfl, ?_, (by ((repeat (first | (with_reducible exact Below.refl _ _) | (with_reducible refine below_drewN ?_ _) | (with_reducible refine Below.drew ?_) | (with_reducible refine below_al ?_ _) | (with_reducible refine below_on (by assumption) ?_) | ((with_reducible refine Below.setCell ?_ ?_ _); rotate_left; focus (first | omega | (simp; done) | (simp; omega))) | (with_reducible assumption))); done))⟩
    rw [← HY.out]
    exact ⟨_, _, w.heap.size, w.heap.size, w.heap.size, w.heap.size, rfl, .inl ⟨_, _, rfl, rfl⟩, .inl ⟨_, _, rfl, rfl⟩, by (refine ⟨?_, ?_⟩ <;> simp; try omega), by (refine ⟨?_, ?_⟩ <;> simp; try omega), .inl (Nat.le_refl _)⟩
  | true =>
    obtain ⟨f1, f2, f3, f4⟩ := coB_facts hb
    obtain ⟨g1, g2, g3, g4⟩ := coB_nets hb
    have HI := Lib.hid (fun v u w h h' => implRefine_any x c c.1.length v u w h h' (by omega) f2 f1 rfl f3 g3 f4 (occs_ok hb))
    rw [hb] at HV hY
    have HY := Lib.hid (show refS x c = Y by simpa using hY)
    clear h hc hok hnn hb hY f1 f2 f3 f4 g1 g2 g3 g4
    go_enter Tryz.func6, Tryz.ntmps6
    go_wp2_with fail
    refine (HV.out _ _ _ (HN.out.by (by ((repeat (first | (with_reducible exact Below.refl _ _) | (with_reducible refine below_drewN ?_ _) | (with_reducible refine Below.drew ?_) | (with_reducible refine below_al ?_ _) | (with_reducible refine below_on (by assumption) ?_) | ((with_reducible refine Below.setCell ?_ ?_ _); rotate_left; focus (first | omega | (simp; done) | (simp; omega))) | (with_reducible assumption))); done))) (HU.out.by (by ((repeat (first | (with_reducible exact Below.refl _ _) | (with_reducible refine below_drewN ?_ _) | (with_reducible refine Below.drew ?_) | (with_reducible refine below_al ?_ _) | (with_reducible refine below_on (by assumption) ?_) | ((with_reducible refine Below.setCell ?_ ?_ _); rotate_left; focus (first | omega | (simp; done) | (simp; omega))) | (with_reducible assumption))); done)))).mono ?_
    rintro e w1 ⟨rfl, hb1⟩
    have kA : Blk w1 w.heap.size #[.int .i64 x.nets, .slice a x.ds.length ca, .slice a' x.ps.length ca'] 27 := (by ((repeat (first | (with_reducible assumption) | (with_reducible refine Blk.drewN ?_ _) | (with_reducible refine Blk.drew ?_) | ((with_reducible refine Blk.new _ ?_); focus (first | omega | (simp; done) | (simp; omega))) | (with_reducible refine Blk.past ?_ _) | ((with_reducible refine Blk.apart ?_ _ _ _ ?_); rotate_left; focus (first | omega | (simp; done) | (simp; omega))) | (with_reducible refine Blk.by (by assumption) ?_))); done))
    have kC : Blk w1 (w.heap.size + 1) #[.slice b c.1.length cb, .slice b' c.2.length cb'] 30 := (by ((repeat (first | (with_reducible assumption) | (with_reducible refine Blk.drewN ?_ _) | (with_reducible refine Blk.drew ?_) | ((with_reducible refine Blk.new _ ?_); focus (first | omega | (simp; done) | (simp; omega))) | (with_reducible refine Blk.past ?_ _) | ((with_reducible refine Blk.apart ?_ _ _ _ ?_); rotate_left; focus (first | omega | (simp; done) | (simp; omega))) | (with_reducible refine Blk.by (by assumption) ?_))); done))
    have kR : Blk w1 (w.heap.size + 1 + 1) #[.slice none 0 0, .slice none 0 0] 30 := (by ((repeat (first | (with_reducible assumption) | (with_reducible refine Blk.drewN ?_ _) | (with_reducible refine Blk.drew ?_) | ((with_reducible refine Blk.new _ ?_); focus (first | omega | (simp; done) | (simp; omega))) | (with_reducible refine Blk.past ?_ _) | ((with_reducible refine Blk.apart ?_ _ _ _ ?_); rotate_left; focus (first | omega | (simp; done) | (simp; omega))) | (with_reducible refine Blk.by (by assumption) ?_))); done))
    have hW : Below w.heap.size w w1 := (by ((repeat (first | (with_reducible exact Below.refl _ _) | (with_reducible refine below_drewN ?_ _) | (with_reducible refine Below.drew ?_) | (with_reducible refine below_al ?_ _) | (with_reducible refine below_on (by assumption) ?_) | ((with_reducible refine Below.setCell ?_ ?_ _); rotate_left; focus (first | omega | (simp; done) | (simp; omega))) | (with_reducible assumption))); done))
    have qA := kA.cell
    have qC := kC.cell
    clear hb1
    go_wp2_with fail
    refine (HI.out _ _ _ (HN.out.by hW) (HU.out.by hW)).mono ?_
    rintro e w2 ⟨v2, rfl, hO, hb2⟩
    rw [HY.out] at hO
    obtain ⟨s1, s2, l1, h1, l2, h2, rfl, hO1, hO2, q1, q2, q3⟩ := hO
    have lR1 := kR.lt
    replace kR := Blk.by hb2 kR
    replace hW := below_on hb2 hW
    obtain ⟨a1, c1, rfl⟩ := hO1.sl.len
    obtain ⟨a2, c2, rfl⟩ := hO2.sl.len
    have HO1 := Lib.hid hO1
    have HO2 := Lib.hid hO2
    have qR := kR.cell
    have fR := kR.free
    have lR := kR.lt
    clear hb2 qA qC hO1 hO2
    obtain ⟨n1, hn1⟩ : ∃ n, Y.1.length = n := ⟨_, rfl⟩
    obtain ⟨n2, hn2⟩ : ∃ n, Y.2.length = n := ⟨_, rfl⟩
    have HN1 := Lib.hid hn1
    have HN2 := Lib.hid hn2
    rw [hn1] at HO1 ⊢
    rw [hn2] at HO2 ⊢
    clear hn1 hn2
    go_wp2
    refine bodyPost_ret (v := .tuple #[.agg #[.slice a1 n1 c1, .slice a2 n2 c2], .bool true]) (by simp [results, Tryz.results6, go_sem, *]) rfl ⟨_, rfl, ⟨_, _, l1, h1, l2, h2, rfl, ?_, ?_, ⟨by omega, by simp; omega⟩, ⟨by omega, by simp; omega⟩, q3⟩, (by ((repeat (first | (with_reducible exact Below.refl _ _) | (with_reducible refine below_drewN ?_ _) | (with_reducible refine Below.drew ?_) | (with_reducible refine below_al ?_ _) | (with_reducible refine below_on (by assumption) ?_) | ((with_reducible refine Below.setCell ?_ ?_ _); rotate_left; focus (first | omega | (simp; done) | (simp; omega))) | (with_reducible assumption))); done))⟩
    · exact OwnR.past (Within.off _) (OwnR.past (Within.off _) HO1.out (by omega)) (by omega)
    · exact OwnR.past (Within.off _) (OwnR.past (Within.off _) HO2.out (by omega)) (by omega)

end Go.Proofs.YtpaiiaajbojmnaaGreat
