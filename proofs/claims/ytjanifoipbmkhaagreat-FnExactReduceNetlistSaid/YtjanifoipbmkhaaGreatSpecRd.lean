/- ReduceNetlist, the reference's. -/
import Derived.Test.YtjanifoipbmkhaaGreatRedR
import Derived.Test.YtjanifoipbmkhaaGreatIsRed
import Derived.Test.YtjanifoipbmkhaaGreatMpMo
import Derived.Test.YtjanifoipbmkhaaGreatRems
import Derived.Test.YtjanifoipbmkhaaGreatSrtB
import Derived.Test.YtjanifoipbmkhaaGreatSpecComp
import Derived.Test.YtjanifoipbmkhaaGreatCopies
import Derived.Test.YtjanifoipbmkhaaGreatNormA
import Derived.Deep.LoopGhost
import Derived.Deep.DeepCutAuto
import Derived.Deep.RegionHeldLaw
namespace Go.Proofs.YtjanifoipbmkhaaGreat
open Go.RowKit
set_option linter.unusedVariables false
set_option linter.unusedSimpArgs false

set_option maxRecDepth 100000 in
set_option maxHeartbeats 2000000 in
theorem specRd_no (x : Nl) (v : Value) (w : World) (h : NlV w v x) (hok : ∀ p ∈ x.ps, p.ok) (hnn : Fits x.nets) (hv : nlB x = false) :
    Calls Tryz.prog 5 #[v] w fun e w' => ∃ v', e = .returned (.tuple #[v', .int .i64 (rdC x)]) ∧ OwnNl w' w.heap.size w'.heap.size v' (rdS x) ∧ Below w.heap.size w w' := by
  rw [(rd_no hv).1, (rd_no hv).2]
  have HV := Lib.hid (fun v w h => specNl_any x v w h hok hnn)
  rw [hv] at HV
  have HN := Lib.hid h
  obtain ⟨a, c, a', c', rfl⟩ := h.sized
  clear h hok hv
  go_enter Tryz.func5, Tryz.ntmps5
  go_wp2_with (go_at_call 13; refine (HV.out _ _ (HN.out.by (by ((repeat (first | (with_reducible exact Below.refl _ _) | (with_reducible refine below_drewN ?_ _) | (with_reducible refine Below.drew ?_) | (with_reducible refine below_al ?_ _) | (with_reducible refine below_on (by assumption) ?_) | ((with_reducible refine Below.setCell ?_ ?_ _); rotate_left; focus (first | omega | (simp; done) | (simp; omega))) | (with_reducible assumption))); done)))).mono ?_; rintro e w1 ⟨rfl, hb1⟩; have k1 : Blk w1 (w.heap.size + 1) #[.int .i64 0, .slice none 0 0, .slice none 0 0] 30 := (by ((repeat (first | (with_reducible assumption) | (with_reducible refine Blk.drewN ?_ _) | (with_reducible refine Blk.drew ?_) | ((with_reducible refine Blk.new _ ?_); focus (first | omega | (simp; done) | (simp; omega))) | (with_reducible refine Blk.past ?_ _) | ((with_reducible refine Blk.apart ?_ _ _ _ ?_); rotate_left; focus (first | omega | (simp; done) | (simp; omega))) | (with_reducible refine Blk.by (by assumption) ?_))); done)); have f1 := k1.free; have c1 := k1.cell; have l1 := k1.lt)
  exact bodyPost_ret (v := .tuple #[.agg #[.int .i64 0, .slice none 0 0, .slice none 0 0], .int .i64 1]) (by simp [results, Tryz.results5, go_sem, *]) rfl ⟨_, rfl, ownNl_nil _ _ _ (by simp; omega), (by ((repeat (first | (with_reducible exact Below.refl _ _) | (with_reducible refine below_drewN ?_ _) | (with_reducible refine Below.drew ?_) | (with_reducible refine below_al ?_ _) | (with_reducible refine below_on (by assumption) ?_) | ((with_reducible refine Below.setCell ?_ ?_ _); rotate_left; focus (first | omega | (simp; done) | (simp; omega))) | (with_reducible assumption))); done))⟩

set_option maxRecDepth 100000 in
set_option maxHeartbeats 8000000 in
theorem specRd_yes (x : Nl) (v : Value) (w : World) (h : NlV w v x) (hok : ∀ p ∈ x.ps, p.ok) (hnn : Fits x.nets) (hv : nlB x = true) :
    Calls Tryz.prog 5 #[v] w fun e w' => ∃ v', e = .returned (.tuple #[v', .int .i64 (rdC x)]) ∧ OwnNl w' w.heap.size w'.heap.size v' (rdS x) ∧ Below w.heap.size w w' := by
  have HV := Lib.hid (fun v w h => specNl_any x v w h hok hnn)
  rw [hv] at HV
  have HN := Lib.hid h
  have HOKF := Lib.hid (show (∀ p ∈ x.ps, p.ok) ∧ Fits x.nets from ⟨hok, hnn⟩)
  have HRM := Lib.hid (fun (y : Nl) v w h (h1 : y.nets = x.nets) (h2 : y.ps = x.ps) => specRm_any y v w h (by rw [h2]; exact hok) (by rw [h1]; exact hnn))
  have HPA := Lib.hid (fun (y : Nl) v w h (hv : nlB y = true) => l28PairP_any y v w h (fun d hd => by have := (dvB_pins (nlB_dvs hv d hd)).1; omega))
  have HPB := Lib.hid (fun (y : Nl) v w h (hv : nlB y = true) => l28PairS_any y v w h hv)
  have HMP := Lib.hid (fun (y : Nl) i j v w h (h1 : y.nets = x.nets) (h2 : y.ps = x.ps) => specMp_any y i j v w h (by rw [h2]; exact hok) (by rw [h1]; exact hnn))
  have HVX := Lib.hid hv
  have hp8 := (nlB_facts hv).2.2.1
  obtain ⟨a, c, a', c', rfl⟩ := h.sized
  clear h hok hv
  go_enter Tryz.func5, Tryz.ntmps5
  go_wp2_with fail
  refine (HV.out _ _ (HN.out.by (by ((repeat (first | (with_reducible exact Below.refl _ _) | (with_reducible refine below_drewN ?_ _) | (with_reducible refine Below.drew ?_) | (with_reducible refine below_al ?_ _) | (with_reducible refine below_on (by assumption) ?_) | ((with_reducible refine Below.setCell ?_ ?_ _); rotate_left; focus (first | omega | (simp; done) | (simp; omega))) | (with_reducible assumption))); done)))).mono ?_
  rintro e w1 ⟨rfl, hb1⟩
  have k0 : Blk w1 w.heap.size #[.int .i64 x.nets, .slice a x.ds.length c, .slice a' x.ps.length c'] 30 := (by ((repeat (first | (with_reducible assumption) | (with_reducible refine Blk.drewN ?_ _) | (with_reducible refine Blk.drew ?_) | ((with_reducible refine Blk.new _ ?_); focus (first | omega | (simp; done) | (simp; omega))) | (with_reducible refine Blk.past ?_ _) | ((with_reducible refine Blk.apart ?_ _ _ _ ?_); rotate_left; focus (first | omega | (simp; done) | (simp; omega))) | (with_reducible refine Blk.by (by assumption) ?_))); done))
  have k1 : Blk w1 (w.heap.size + 1) #[.int .i64 0, .slice none 0 0, .slice none 0 0] 30 := (by ((repeat (first | (with_reducible assumption) | (with_reducible refine Blk.drewN ?_ _) | (with_reducible refine Blk.drew ?_) | ((with_reducible refine Blk.new _ ?_); focus (first | omega | (simp; done) | (simp; omega))) | (with_reducible refine Blk.past ?_ _) | ((with_reducible refine Blk.apart ?_ _ _ _ ?_); rotate_left; focus (first | omega | (simp; done) | (simp; omega))) | (with_reducible refine Blk.by (by assumption) ?_))); done))
  have hB1 : Below w.heap.size w w1 := (by ((repeat (first | (with_reducible exact Below.refl _ _) | (with_reducible refine below_drewN ?_ _) | (with_reducible refine Below.drew ?_) | (with_reducible refine below_al ?_ _) | (with_reducible refine below_on (by assumption) ?_) | ((with_reducible refine Below.setCell ?_ ?_ _); rotate_left; focus (first | omega | (simp; done) | (simp; omega))) | (with_reducible assumption))); done))
  have c0 := k0.cell
  have l1 := k1.lt
  clear hb1
  go_wp2_with fail
  refine (HRM.out x _ _ (HN.out.by hB1) rfl rfl).mono ?_
  rintro e w2 ⟨v2, rfl, hO, hb2⟩
  have hsz2 := hb2.size
  have hrs := rmS_same HVX.out
  obtain ⟨a1, c1, a2, c2, rfl⟩ := hO.nl.sized
  rw [hrs.1, hrs.2] at hO
  rw [hrs.1, hrs.2]
  have k12 := Blk.by hb2 k1
  have hB2 := below_on hb2 hB1
  clear c0 k0 hb2 HN HV hrs
  obtain ⟨T, hT⟩ : ∃ T, w2.heap.size = T := ⟨_, rfl⟩
  obtain ⟨w3, hw3⟩ : ∃ z, z = w2.alloc (.cells #[.int .i64 x.nets, .slice a1 (rmS x).ds.length c1, .slice a2 x.ps.length c2] 30) := ⟨_, rfl⟩
  have hal : Below w2.heap.size w2 w3 := by rw [hw3]; exact (Below.refl _ w2).alloc (Nat.le_refl _) _
  have kT3 : Blk w3 T #[.int .i64 x.nets, .slice a1 (rmS x).ds.length c1, .slice a2 x.ps.length c2] 30 := by rw [hw3]; exact Blk.new _ hT.symm
  have hsz3 : w3.heap.size = T + 1 := by rw [hw3]; simp [hT]
  have kZ3 := Blk.by hal k12
  have hB3 := below_on hal hB2
  have HO3 := Lib.hid (hO.by hal)
  have hT1 : w.heap.size + 1 < T := by omega
  have hlo1 : w.heap.size + 1 < w1.heap.size := l1
  have HSZ3 := Lib.hid hsz3
  have HB0 := Lib.hid (show (T < w1.heap.size ∨ w2.heap.size ≤ T) ∧ w.heap.size + 1 < w1.heap.size ∧ w2.heap.size ≤ w3.heap.size from ⟨.inr (by omega), hlo1, by omega⟩)
  clear hsz3
  go_upto_region 4 with fail
  rw [← hw3]
  (try rw [hT])
  clear hw3 hal hO hB2 k12 hsz2 hB1 l1 k1 hT
  go_loopg [5] (x.ds.length) (fun gk vp wr => ∃ (y : Nl) (b3 : Option Addr) (d3 : Nat) (b4 : Option Addr) (d4 lo hi : Nat), Hid (y.ds.length ≤ gk) ∧ Hid (nlB y = true ∧ y.nets = x.nets ∧ y.ps = x.ps ∧ redF y = redF x) ∧ Blk wr T #[.int .i64 x.nets, .slice b3 (rmS y).ds.length d3, .slice b4 x.ps.length d4] 30 ∧ Hid (OwnNl wr lo hi (.agg #[.int .i64 x.nets, .slice b3 (rmS y).ds.length d3, .slice b4 x.ps.length d4]) (rmS y)) ∧ Hid ((T < lo ∨ hi ≤ T) ∧ w.heap.size + 1 < lo ∧ hi ≤ wr.heap.size) ∧ Blk wr (w.heap.size + 1) #[.int .i64 0, .slice none 0 0, .slice none 0 0] 30 ∧ Below w.heap.size w wr)
  case atStart => exact ⟨x, a1, c1, a2, c2, w1.heap.size, w2.heap.size, Lib.hid (Nat.le_refl _), Lib.hid ⟨HVX.out, rfl, rfl, rfl⟩, kT3, HO3, HB0, kZ3, hB3⟩
  case round =>
    clear kT3 HO3 kZ3 hB3 HB0 HSZ3
    obtain ⟨y, b3, d3, b4, d4, lo, hi, HG, HY, kT, HO5, HBD, kZ, hb⟩ := hrel
    have hzf : nlB (rmS y) = true ∧ (rmS y).nets = x.nets ∧ (rmS y).ps = x.ps ∧ (rmS y).ds.length ≤ y.ds.length := ⟨rmS_valid HY.out.1, (rmS_same HY.out.1).1.trans HY.out.2.1, (rmS_same HY.out.1).2.trans HY.out.2.2.1, rmS_len y⟩
    have HRS := Lib.hid (fun h => HY.out.2.2.2.symm.trans (redF_stop (x := y) h))
    have HRE1 := Lib.hid (fun h h' => HY.out.2.2.2.symm.trans (redF_err (x := y) h h'))
    have HRG := Lib.hid (fun h h' => HY.out.2.2.2.symm.trans (redF_go (x := y) h h'))
    have HGL := Lib.hid (Nat.le_trans hzf.2.2.2 HG.out)
    obtain ⟨z, hz⟩ : ∃ z, rmS y = z := ⟨_, rfl⟩
    rw [hz] at hzf HO5 HRS HRE1 HRG HGL kT
    have HZF := Lib.hid hzf
    clear hzf hz HY HG
    have hpa := fun v w h => HPA.out z v w h HZF.out.1
    rw [firstP_par HZF.out.1] at hpa
    have HPAZ := Lib.hid hpa
    have HPBZ := Lib.hid (fun v w h => HPB.out z v w h HZF.out.1)
    have c5 := kT.cell
    have l5 := kT.lt
    clear hpa
    go_wp2_with fail
    refine (HPAZ.out _ _ HO5.out.nl).mono ?_
    rintro e6 w6 ⟨rfl, hb6⟩
    have HO6 := Lib.hid (HO5.out.by hb6)
    have kT6 := Blk.by hb6 kT
    have kZ6 := Blk.by hb6 kZ
    have hb6w := below_on hb6 hb
    have hs6 := hb6.size
    have HBD6 := Lib.hid (show (T < lo ∨ hi ≤ T) ∧ w.heap.size + 1 < lo ∧ hi ≤ w6.heap.size from ⟨HBD.out.1, HBD.out.2.1, by have := HBD.out.2.2; omega⟩)
    clear c5 l5 hb6 HO5 kT kZ hb HPAZ HBD
    have c6 := kT6.cell
    have l6 := kT6.lt
    obtain ⟨q1, hq1⟩ : ∃ q, (firstP parB z.ds).1 = q := ⟨_, rfl⟩
    obtain ⟨q2, hq2⟩ : ∃ q, (firstP parB z.ds).2.1 = q := ⟨_, rfl⟩
    obtain ⟨q3, hq3⟩ : ∃ q, (firstP parB z.ds).2.2 = q := ⟨_, rfl⟩
    have HQ := Lib.hid (show (firstP parB z.ds).1 = q1 ∧ (firstP parB z.ds).2.1 = q2 ∧ (firstP parB z.ds).2.2 = q3 from ⟨hq1, hq2, hq3⟩)
    rw [hq1, hq2, hq3]
    clear hq1 hq2 hq3
    go_upto_if 24 with fail
    go_cut [5, 6, 7] (fun v5 v6 v7 wx => v5 = .int .i64 (nextP z).1 ∧ v6 = .int .i64 (nextP z).2.1 ∧ v7 = .bool (nextP z).2.2 ∧ Below w6.heap.size w6 wx)
    case first =>
      cases q3 with
      | true =>
        have hnx : nextP z = firstP parB z.ds := by unfold nextP; rw [if_pos HQ.out.2.2]
        have HNX := Lib.hid hnx
        clear hnx
        go_wp2_with fail
        all_goals (try go_meet)
        exact ⟨by rw [HNX.out, HQ.out.1], by rw [HNX.out, HQ.out.2.1], by rw [HNX.out, HQ.out.2.2], Below.refl _ _⟩
      | false =>
        have hnx : nextP z = firstP (serB z) z.ds := by unfold nextP; rw [if_neg (by rw [HQ.out.2.2]; simp)]
        have HNX := Lib.hid hnx
        clear hnx
        go_wp2_with fail
        refine (HPBZ.out _ _ HO6.out.nl).mono ?_
        rintro e7 w7 ⟨rfl, hb7⟩
        go_wp2_with fail
        all_goals (try go_meet)
        exact ⟨by rw [HNX.out], by rw [HNX.out], by rw [HNX.out], hb7⟩
    case rest =>
      obtain ⟨rfl, rfl, rfl, hb7⟩ := hcut
      replace HO6 := Lib.hid (HO6.out.by hb7)
      replace kT6 := Blk.by hb7 kT6
      replace kZ6 := Blk.by hb7 kZ6
      replace hb6w := below_on hb7 hb6w
      have hs7 := hb7.size
      replace HBD6 := Lib.hid (show (T < lo ∨ hi ≤ T) ∧ w.heap.size + 1 < lo ∧ hi ≤ wc.heap.size from ⟨HBD6.out.1, HBD6.out.2.1, by have := HBD6.out.2.2; omega⟩)
      clear hb7 HPBZ HQ c6 l6
      have c6 := kT6.cell
      have l6 := kT6.lt
      obtain ⟨pi, hpi⟩ : ∃ p, (nextP z).1 = p := ⟨_, rfl⟩
      obtain ⟨pj, hpj⟩ : ∃ p, (nextP z).2.1 = p := ⟨_, rfl⟩
      obtain ⟨pk, hpk⟩ : ∃ p, (nextP z).2.2 = p := ⟨_, rfl⟩
      rw [hpi, hpj, hpk] at HRE1 HRG
      rw [hpk] at HRS
      rw [hpi, hpj, hpk]
      clear hpi hpj hpk
      have hT6 : T < wc.heap.size := l6
      cases pk with
      | true =>
        go_wp2_with fail
        refine (HMP.out z pi pj _ _ HO6.out.nl HZF.out.2.1 HZF.out.2.2.1).mono ?_
        rintro e7 w7 ⟨v7, rfl, hO7, hb7⟩
        have HO7 := Lib.hid hO7.a
        obtain ⟨b5, d5, b6, d6, rfl⟩ := hO7.nl.sized
        have kT7 := Blk.by hb7 kT6
        have kZ7 := Blk.by hb7 kZ6
        have hb7w := below_on hb7 hb6w
        have hs7 := hb7.size
        clear hO7 hb7 c6 l6 kT6 kZ6 HO6 hb6w
        by_cases hcd : mgC z pi pj = 0
        · have hmf := mgR_facts hcd
          have HRG2 := Lib.hid (HRG.out (by first | trivial | rfl) hcd)
          have HMF := Lib.hid hmf
          rw [hmf.2.1, hmf.2.2.1, HZF.out.2.1, HZF.out.2.2.1] at HO7
          rw [hmf.2.1, hmf.2.2.1, HZF.out.2.1, HZF.out.2.2.1]
          rw [hcd]
          obtain ⟨u, hu⟩ : ∃ u, mgR z pi pj = u := ⟨_, rfl⟩
          rw [hu] at HO7 HRG2 HMF ⊢
          clear hmf hcd hu HRG HRE1 HRS
          have fT7 := kT7.free
          have cT7 := kT7.cell
          have lT7 := kT7.lt
          obtain ⟨w8, hw8⟩ : ∃ q, q = w7.alloc (.cells #[.int .i64 x.nets, .slice b5 u.ds.length d5, .slice b6 x.ps.length d6] 30) := ⟨_, rfl⟩
          have hal : Below w7.heap.size w7 w8 := by rw [hw8]; exact (Below.refl _ w7).alloc (Nat.le_refl _) _
          have kT8 := Blk.by hal kT7
          have kZ8 := Blk.by hal kZ7
          have hb8 := below_on hal hb7w
          have HU8 := Lib.hid (HO7.out.by hal).nl
          have hs8 := hal.size
          have hun : u.nets = x.nets ∧ u.ps = x.ps := ⟨HMF.out.2.1.trans HZF.out.2.1, HMF.out.2.2.1.trans HZF.out.2.2.1⟩
          have HUN := Lib.hid hun
          clear fT7 cT7 lT7 kT7 kZ7 hb7w HO7 hun
          have lT8 := kT8.lt
          go_wp2_with fail
          rw [← hw8]
          refine (HRM.out u _ _ HU8.out HUN.out.1 HUN.out.2).mono ?_
          rintro e9 w9 ⟨v9, rfl, hO9, hb9⟩
          have hru := rmS_same HMF.out.1
          obtain ⟨b7, d7, b8, d8, rfl⟩ := hO9.nl.sized
          rw [hru.1, hru.2, HUN.out.1, HUN.out.2] at hO9
          rw [hru.1, hru.2, HUN.out.1, HUN.out.2]
          have HO9 := Lib.hid hO9
          have kT9 := Blk.by hb9 kT8
          have kZ9 := Blk.by hb9 kZ8
          have hb9w := below_on hb9 hb8
          have hs9 := hb9.size
          clear hO9 hru hb9 hal
          have fT9 := kT9.free
          have cT9 := kT9.cell
          have lT9 := kT9.lt
          obtain ⟨wA, hwA, kTA, hWA⟩ := three_cells kT9 (a' := .int .i64 x.nets) (b' := .slice b7 (rmS u).ds.length d7) (c' := .slice b8 x.ps.length d8)
          have HFIN := Lib.hid (show u.ds.length < gk ∧ nlB u = true ∧ u.nets = x.nets ∧ u.ps = x.ps ∧ redF u = redF x from ⟨by have := HMF.out.2.2.2; have := HGL.out; omega, HMF.out.1, HUN.out.1, HUN.out.2, HRG2.out.symm⟩)
          have HOA := Lib.hid (HO9.out.past hWA (by omega))
          have kZA := hWA.blk kZ9 (by omega)
          have hbA := hWA.below hb9w (by omega)
          have hsA := hWA.size
          go_wp2_with fail
          rw [← hwA]
          go_roundg u.ds.length
          case measure => exact HFIN.out.1
          case rel => exact ⟨u, b7, d7, b8, d8, w8.heap.size, w9.heap.size, Lib.hid (Nat.le_refl _), Lib.hid HFIN.out.2, kTA, HOA, Lib.hid ⟨.inl (by omega), by omega, by omega⟩, kZA, hbA⟩
        · have hre := rd_err HVX.out (by rw [HRE1.out (by first | trivial | rfl) hcd]; exact hcd)
          have hr2 : (redF x).2 = mgC z pi pj := by rw [HRE1.out (by first | trivial | rfl) hcd]
          rw [hr2] at hre
          have HRE := Lib.hid hre
          have hcb : (mgC z pi pj == 0) = false := by simpa using hcd
          have hcb2 : (mgC z pi pj != 0) = true := by simpa using hcd
          obtain ⟨cc, hcc⟩ : ∃ c, mgC z pi pj = c := ⟨_, rfl⟩
          rw [hcc] at hcb hcb2 HRE ⊢
          clear hcc
          have cZ7 := kZ7.cell
          have fZ7 := kZ7.free
          have lZ7 := kZ7.lt
          obtain ⟨u, hu⟩ : ∃ u, mgR z pi pj = u := ⟨_, rfl⟩
          rw [hu]
          clear hre hr2 hcd hu HRG HRE1 HRS HO7
          go_wp2
          refine bodyPost_ret (v := .tuple #[.agg #[.int .i64 0, .slice none 0 0, .slice none 0 0], .int .i64 cc]) (by simp [results, Tryz.results5, go_sem, *]) rfl ⟨_, by rw [HRE.out.2], ?_, ?_⟩
          · rw [HRE.out.1]
            exact ownNl_nil _ _ _ (by have := hb7w.size; simp; omega)
          · repeat (first | (with_reducible exact hb7w) | ((with_reducible refine Below.setCell ?_ ?_ _); rotate_left; focus (simp; try omega)) | (with_reducible refine below_al ?_ _))
      | false =>
        have hrs := HRS.out (by first | trivial | rfl)
        have hre := rd_yes HVX.out hrs
        obtain ⟨RR, hRR⟩ : ∃ RR, cmS (sortS (nrmS z)) = RR := ⟨_, rfl⟩
        rw [hRR] at hre
        have HRE := Lib.hid hre
        obtain ⟨_, zl24, zp8, zdv, _⟩ := nlB_facts HZF.out.1
        have nv := nrmS_valid HZF.out.1
        obtain ⟨_, nl24, np8, ndv, _⟩ := nlB_facts nv
        have HSO := Lib.hid (fun v w h => specSort_any (nrmS z) v w h (by rw [show (nrmS z).ps = x.ps from HZF.out.2.2.1]; exact HOKF.out.1) (by rw [show (nrmS z).nets = x.nets from HZF.out.2.1]; exact HOKF.out.2))
        have hso : soS (nrmS z) = sortS (nrmS z) := soS_yes nv
        rw [hso] at HSO
        have HCM := Lib.hid (fun v w h => specComp_any (sortS (nrmS z)) v w h (by rw [show (sortS (nrmS z)).ps = x.ps from HZF.out.2.2.1]; exact HOKF.out.1) (by rw [show (sortS (nrmS z)).nets = x.nets from HZF.out.2.1]; exact HOKF.out.2))
        clear hso
        rw [hRR] at HCM
        have HDV := Lib.hid zdv
        obtain ⟨s1, s2, l1, h1, l2, h2, ee, hOD, hOP, ⟨m1, m2⟩, ⟨m3, m4⟩, hdis⟩ := HO6.out
        obtain rfl : Value.slice b3 z.ds.length d3 = s1 := by have := congrArg (fun v => match v with | .agg a => a[1]? | _ => none) ee; simpa using this
        obtain rfl : Value.slice b4 x.ps.length d4 = s2 := by have := congrArg (fun v => match v with | .agg a => a[2]? | _ => none) ee; simpa using this
        rw [HZF.out.2.2.1] at hOP
        have HST := Lib.hid (NrmSt.start hOD (by have := HBD6.out.2.2; omega))
        have HOP := Lib.hid hOP
        clear hrs hre hRR nv ndv zdv hOD hOP ee HO6 HRS HRG HRE1 nl24 np8
        go_wp2
        go_loopw [10] (fun vi wr => ∃ k : Nat, k ≤ z.ds.length ∧ vi = .int .i64 k ∧ Hid (NrmSt wr l1 h1 (.slice b3 z.ds.length d3) z.ds k) ∧ Hid (OwnPs wr l2 h2 (.slice b4 x.ps.length d4) x.ps) ∧ Blk wr T #[.int .i64 x.nets, .slice b3 z.ds.length d3, .slice b4 x.ps.length d4] 30 ∧ Blk wr (w.heap.size + 1) #[.int .i64 0, .slice none 0 0, .slice none 0 0] 30 ∧ (h1 ≤ wr.heap.size ∧ h2 ≤ wr.heap.size) ∧ Below w.heap.size w wr) (fun vi _ => z.ds.length - (intOf vi).toNat)
        case atStart => exact ⟨0, Nat.zero_le _, rfl, HST, HOP, kT6, kZ6, ⟨by have := HBD6.out.2.2; omega, by have := HBD6.out.2.2; omega⟩, hb6w⟩
        case round =>
          clear HST HOP kT6 kZ6 hb6w c6 l6
          obtain ⟨k, hk, rfl, HST, HOP, kT, kZ, ⟨hh1, hh2⟩, hb⟩ := hrel
          by_cases hlk : k < z.ds.length
          · obtain ⟨D, hD⟩ : ∃ D, z.ds[k]? = some D := ⟨_, List.getElem?_eq_getElem hlk⟩
            have hst := HST.out
            rcases hst with ⟨_, _, _, h0⟩ | ⟨g, cap, eg, hg, hcap, hmax, hrow⟩
            · rw [h0] at hlk; simp at hlk
            obtain ⟨rfl, rfl⟩ : b3 = some ⟨g, 0, none⟩ ∧ d3 = cap := by simpa using eg
            obtain ⟨cs, pv, hB, ⟨p0, p1, p2, p3⟩, hpv⟩ := hrow.get hD
            have hdd := dvB_pins (HDV.out D (List.mem_of_getElem? hD))
            have HNM := Lib.hid (fun w h => specNorm_any D.kind D.wd D.len pv D.pins w h (by omega))
            have HNE := Lib.hid (show normz D.kind D.pins ≠ [] from fun e => by have := (normz_facts D.kind D.pins).1; rw [e] at this; simp at this; omega)
            obtain ⟨ap, cp, rfl⟩ := hpv.len
            have HPV := Lib.hid hpv
            have HROW := Lib.hid hrow
            have HD := Lib.hid hD
            have hBc := hB.cell
            have hBl := hB.lt
            have cT := kT.cell
            have lT := kT.lt
            have i1 : (0 : Int) ≤ (k : Int) := by omega
            have i2 : (k : Int) < (z.ds.length : Int) := by omega
            clear hD eg hpv hrow hdd
            go_upto_region 15 with fail
            have hBD := HBD6.out
            have hl1 : w.heap.size + 1 < l1 := by omega
            have HPV7 := HPV
            have HROW7 := HROW
            have hgT : g ≠ T := by omega
            go_region_law
              (first | (go_simp; go_at_call 17; refine (HNM.out _ (HPV7.out.by (by ((repeat (first | (with_reducible exact Below.refl _ _) | (with_reducible refine below_drewN ?_ _) | (with_reducible refine Below.drew ?_) | (with_reducible refine below_al ?_ _) | (with_reducible refine below_on (by assumption) ?_) | ((with_reducible refine Below.setCell ?_ ?_ _); rotate_left; focus (first | omega | (simp; done) | (simp; omega))) | (with_reducible assumption))); done)))).mono ?_; rintro e w8 ⟨pv8, rfl, hOI, hb8⟩; obtain ⟨fb, hf1, hf2, hOR⟩ := hOI.pin HNE.out; have HOR := Lib.hid hOR; obtain ⟨aq, cq, rfl⟩ := hOR.sl.len; clear hOR hOI; have hb88 : Below wr.heap.size wr w8 := (by ((repeat (first | (with_reducible exact Below.refl _ _) | (with_reducible refine below_drewN ?_ _) | (with_reducible refine Below.drew ?_) | (with_reducible refine below_al ?_ _) | (with_reducible refine below_on (by assumption) ?_) | ((with_reducible refine Below.setCell ?_ ?_ _); rotate_left; focus (first | omega | (simp; done) | (simp; omega))) | (with_reducible assumption))); done)); have hf0 : wr.heap.size ≤ fb := hf1; have kG8 := Blk.by hb88 hB; have cG8 := kG8.cell; have fG8 := kG8.free; have lG8 := kG8.lt; have kT8 := Blk.by hb88 kT; have cT8 := kT8.cell; dsimp only))
            all_goals
              go_wp2_with fail
              obtain ⟨W, hW, hROW, hWW⟩ := NrmRow.step HROW7.out hb88 HD.out hf0 hf2 (show OwnR w8 fb (fb + 1) (.slice aq (normz D.kind D.pins).length cq) (normD D).pins from HOR.out) (by omega)
              rw [← hW]
              have hs88 := hb88.size
              have hsW := hWW.size
              exact ⟨⟨k + 1, by omega, by go_num, Lib.hid (.inr ⟨g, d3, rfl, hg, hcap, hmax, hROW⟩), Lib.hid ((HOP.out.by hb88).past hWW (by omega)), hWW.blk kT8 (by omega), hWW.blk (Blk.by hb88 kZ) (by omega), ⟨by omega, by omega⟩, hWW.below (below_on hb88 hb) (by omega)⟩, by simp [intOf]; omega⟩
          · obtain rfl : k = z.ds.length := by omega
            have hdone := NrmSt.done HST.out
            have HF := Lib.hid (show NlV wr (.agg #[.int .i64 x.nets, .slice b3 z.ds.length d3, .slice b4 x.ps.length d4]) (nrmS z) from ⟨_, _, by rw [show (nrmS z).nets = x.nets from HZF.out.2.1], hdone.sl, by rw [show (nrmS z).ps = x.ps from HZF.out.2.2.1]; exact HOP.out.sl⟩)
            have j3 : ¬ (z.ds.length : Int) < (z.ds.length : Int) := by omega
            clear hdone HST HOP
            have cT := kT.cell
            have lT := kT.lt
            go_wp2_with (first | (go_at_call 19; refine (HSO.out _ _ HF.out).mono ?_; rintro e w8 ⟨v8, rfl, hO8, hb8⟩; have HO8 := Lib.hid hO8.nl; have kZ8 := Blk.by hb8 kZ; have hb8w := below_on hb8 hb; obtain ⟨q1, q2, q3, q4, rfl⟩ := hO8.nl.sized; clear hO8) | (go_at_call 18; refine (HCM.out _ _ HO8.out).mono ?_; rintro e w9 ⟨v9, rfl, hO9, hb9⟩; have HO9 := Lib.hid hO9; have kZ9 := Blk.by hb9 kZ8; have hb9w := below_on hb9 hb8w; obtain ⟨q5, q6, q7, q8, rfl⟩ := hO9.nl.sized; clear hO9; have cZ9 := kZ9.cell; have fZ9 := kZ9.free; have lZ9 := kZ9.lt))
            have hs8 := hb8.size
            have hsw := hb.size
            have hlt9 := kZ8.lt
            have hre := HRE.out
            refine bodyPost_ret (v := .tuple #[.agg #[.int .i64 RR.nets, .slice q5 RR.ds.length q6, .slice q7 RR.ps.length q8], .int .i64 0]) (by simp [results, Tryz.results5, go_sem, *]) rfl ⟨_, by rw [hre.2], ?_, ?_⟩
            · rw [hre.1]
              exact ((((HO9.out.past (Within.off _) (by omega)).past (Within.off _) (by omega)).past (Within.off _) (by omega)).wide (by omega) (by simp))
            · repeat (first | (with_reducible exact hb9w) | ((with_reducible refine Below.setCell ?_ ?_ _); rotate_left; focus (simp; try omega)))
end Go.Proofs.YtjanifoipbmkhaaGreat
