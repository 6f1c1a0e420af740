/- Contracts and plain laws, part 15, for the statement's proof. -/
import Derived.Test.YtifbffianbgeaaaGreatPkPerLaw14
import Derived.BigRegion
import Derived.BigQuiet
import Derived.Deep.RegionHeld3
import Derived.Deep.DeepCutAuto
import Derived.Deep.CutRange
namespace Go.Proofs.YtifbffianbgeaaaGreat
open Go.RowKit
set_option linter.unusedVariables false
set_option linter.unusedSimpArgs false
/- ApplyMatching, the program's. -/
set_option maxRecDepth 100000 in
set_option maxHeartbeats 2000000 in
theorem implApply_any (x : Nl) (y : List Int × List Int) (v u : Value) (w : World) (h : NlV w v x) (hm : MaV w u y) (hok : ∀ p ∈ x.ps, p.ok) (hnn : Fits x.nets) (hl : y.1.length ≤ 1048576) (hl' : y.2.length ≤ 1048576) :
    Calls Tryz.prog 30 #[v, u] w fun e w' => ∃ v', e = .returned (.tuple #[v', .int .i64 (apC x y)]) ∧ OwnNlX w' w.heap.size w'.heap.size v' (apR x y) ∧ Below w.heap.size w w' := by
  have HV := Lib.hid (fun v w h => implNl_any x v w h hok hnn)
  have HN := Lib.hid h
  obtain ⟨s1, s2, rfl, hm1, hm2⟩ := hm
  obtain ⟨names, zs⟩ := y
  dsimp only at hm1 hm2 hl hl'
  have HS := Lib.hid hm1
  have HZ := Lib.hid hm2
  obtain ⟨rc, hrc⟩ : ∃ r, apC x (names, zs) = r := ⟨_, rfl⟩
  obtain ⟨rr, hrr⟩ : ∃ r, apR x (names, zs) = r := ⟨_, rfl⟩
  rw [hrc, hrr]
  unfold apC at hrc
  unfold apR at hrr
  obtain ⟨a, c, a', c', rfl⟩ := h.sized
  obtain ⟨am, cm, rfl⟩ := hm1.len
  obtain ⟨an, cn, rfl⟩ := hm2.len
  by_cases hb : nlB x = true
  · obtain ⟨⟨hn0, hn1⟩, hd24, hp8, hdv, _⟩ := nlB_facts hb
    have hnet := nl_netsX hb
    obtain ⟨nets, ds, ps⟩ := x
    dsimp only at *
    obtain ⟨m, rfl⟩ : ∃ m : Nat, nets = m := ⟨nets.toNat, by omega⟩
    rw [hb] at HV
    rw [if_pos hb] at hrc hrr
    have HO1 := Lib.hid (fun w h => implOrder_any (.slice am names.length cm) names m w h hl)
    have HO2 := Lib.hid (fun w h => implOrder_any (.slice an zs.length cn) zs ds.length w h hl')
    obtain ⟨p1, hp1⟩ : ∃ p, permB names (m : Int) = p := ⟨_, rfl⟩
    obtain ⟨p2, hp2⟩ : ∃ p, permB zs (ds.length : Int) = p := ⟨_, rfl⟩
    rw [hp1] at HO1 hrc hrr
    rw [hp2] at HO2 hrc hrr
    cases p1 with
    | false =>
      simp only [Bool.false_eq_true, false_and, if_false] at hrc hrr
      subst hrc hrr
      clear h hm1 hm2 hok hnn hp1 hp2 hb hnet hdv HO2
      go_enter Tryz.func30, Tryz.ntmps30
      go_wp2_with fail
      refine (HV.out _ _ (HN.out.by blwT)).mono ?_
      rintro e w1 ⟨rfl, hb1⟩
      have kA : Blk w1 w.heap.size #[.int .i64 (m : Int), .slice a ds.length c, .slice a' ps.length c'] 35 := blkT
      have kM : Blk w1 (w.heap.size + 1) #[.slice am names.length cm, .slice an zs.length cn] 29 := blkT
      have kR : Blk w1 (w.heap.size + 1 + 1) #[.int .i64 0, .slice none 0 0, .slice none 0 0] 35 := blkT
      have hW : Below w.heap.size w w1 := blwT
      have qA := kA.cell
      have qM := kM.cell
      have lA := kA.lt
      have lM := kM.lt
      clear hb1
      go_wp2_with fail
      refine (HO1.out _ (HS.out.by hW)).mono ?_
      rintro e w2 ⟨rfl, hb2⟩
      replace kA := Blk.by hb2 kA
      replace kM := Blk.by hb2 kM
      replace kR := Blk.by hb2 kR
      replace hW := below_on hb2 hW
      clear hb2 qA qM lA lM
      have qA := kA.cell
      have qM := kM.cell
      have lA := kA.lt
      have lM := kM.lt
      have qR := kR.cell
      have fR := kR.free
      have lR := kR.lt
      go_wp2
      exact bodyPost_ret (v := .tuple #[.agg #[.int .i64 0, .slice none 0 0, .slice none 0 0], .int .i64 2]) (by simp [results, Tryz.results30, go_sem, *]) rfl ⟨_, rfl, nlZeroX _ _ _ (by simp; omega), blwT⟩
    | true =>
      cases p2 with
      | false =>
        simp only [Bool.false_eq_true, and_false, if_false] at hrc hrr
        subst hrc hrr
        clear h hm1 hm2 hok hnn hp1 hp2 hb hnet hdv
        go_enter Tryz.func30, Tryz.ntmps30
        go_wp2_with fail
        refine (HV.out _ _ (HN.out.by blwT)).mono ?_
        rintro e w1 ⟨rfl, hb1⟩
        have kA : Blk w1 w.heap.size #[.int .i64 (m : Int), .slice a ds.length c, .slice a' ps.length c'] 35 := blkT
        have kM : Blk w1 (w.heap.size + 1) #[.slice am names.length cm, .slice an zs.length cn] 29 := blkT
        have kR : Blk w1 (w.heap.size + 1 + 1) #[.int .i64 0, .slice none 0 0, .slice none 0 0] 35 := blkT
        have hW : Below w.heap.size w w1 := blwT
        have qA := kA.cell
        have qM := kM.cell
        have lA := kA.lt
        have lM := kM.lt
        clear hb1
        go_wp2_with fail
        refine (HO1.out _ (HS.out.by hW)).mono ?_
        rintro e w2 ⟨rfl, hb2⟩
        replace kA := Blk.by hb2 kA
        replace kM := Blk.by hb2 kM
        replace kR := Blk.by hb2 kR
        replace hW := below_on hb2 hW
        clear hb2 qA qM lA lM
        have qA := kA.cell
        have qM := kM.cell
        have lA := kA.lt
        have lM := kM.lt
        go_wp2_with fail
        refine (HO2.out _ (HZ.out.by hW)).mono ?_
        rintro e w3 ⟨rfl, hb3⟩
        replace kA := Blk.by hb3 kA
        replace kM := Blk.by hb3 kM
        replace kR := Blk.by hb3 kR
        replace hW := below_on hb3 hW
        clear hb3 qA qM lA lM
        have qA := kA.cell
        have qM := kM.cell
        have lA := kA.lt
        have lM := kM.lt
        have qR := kR.cell
        have fR := kR.free
        have lR := kR.lt
        go_wp2
        exact bodyPost_ret (v := .tuple #[.agg #[.int .i64 0, .slice none 0 0, .slice none 0 0], .int .i64 2]) (by simp [results, Tryz.results30, go_sem, *]) rfl ⟨_, rfl, nlZeroX _ _ _ (by simp; omega), blwT⟩
      | true =>
        simp only [and_self, if_true] at hrc hrr
        have hlen : (names.length : Int) = m := (permB_iff.1 hp1).1
        have hzl : zs.length = ds.length := by have := (permB_iff.1 hp2).1; omega
        have HZL := Lib.hid hzl
        have HR := Lib.hid (fun v w h h' => implRen_any ⟨(m : Int), ds, ps⟩ names (.slice am names.length cm) (m : Int) v w h h' (by dsimp only; omega) (by dsimp only; omega) (fun d hd => by have q := dvB_pins (hdv d hd); exact ⟨q.1, fun e => by rw [e] at q; simp at q, fun z hz => by have := q.2.2 z hz; omega⟩) (fun p hp => by have := hnet p hp; omega))
        have HSH := Lib.hid (show ∀ d ∈ ds, Shp d from fun d hd => shp_of (hdv d hd))
        have HP2 := Lib.hid hp2
        subst hrc
        subst hrr
        obtain ⟨RD, hRD⟩ : ∃ r, ds.map (renD names) = r := ⟨_, rfl⟩
        obtain ⟨RP, hRP⟩ : ∃ r, ps.map (renP names) = r := ⟨_, rfl⟩
        rw [hRD, hRP]
        have HRD := Lib.hid hRD
        have HRP := Lib.hid hRP
        have HCP := Lib.hid (fun v w h => copyNetlist_any (renS ⟨(m : Int), ds, ps⟩ names m) v w h (by simp [renS]; omega) (by simp [renS]; omega) (fun d hd => by
          simp only [renS] at hd
          obtain ⟨e, he, rfl⟩ := List.mem_map.1 hd
          have q := dvB_pins (hdv e he)
          exact ⟨by simp [renD]; omega, fun e' => by simp [renD] at e'; rw [e'] at q; simp at q⟩))
        clear h hm1 hm2 hok hnn hp1 hb hnet hdv hlen hp2 hzl hRD hRP
        go_enter Tryz.func30, Tryz.ntmps30
        go_wp2_with fail
        refine (HV.out _ _ (HN.out.by blwT)).mono ?_
        rintro e w1 ⟨rfl, hb1⟩
        have kA : Blk w1 w.heap.size #[.int .i64 (m : Int), .slice a ds.length c, .slice a' ps.length c'] 35 := blkT
        have kM : Blk w1 (w.heap.size + 1) #[.slice am names.length cm, .slice an zs.length cn] 29 := blkT
        have kR : Blk w1 (w.heap.size + 1 + 1) #[.int .i64 0, .slice none 0 0, .slice none 0 0] 35 := blkT
        have hW : Below w.heap.size w w1 := blwT
        have qA := kA.cell
        have qM := kM.cell
        have lA := kA.lt
        have lM := kM.lt
        clear hb1
        go_wp2_with fail
        refine (HO1.out _ (HS.out.by hW)).mono ?_
        rintro e w2 ⟨rfl, hb2⟩
        replace kA := Blk.by hb2 kA
        replace kM := Blk.by hb2 kM
        replace kR := Blk.by hb2 kR
        replace hW := below_on hb2 hW
        clear hb2 qA qM lA lM
        have qA := kA.cell
        have qM := kM.cell
        have lA := kA.lt
        have lM := kM.lt
        go_wp2_with fail
        refine (HO2.out _ (HZ.out.by hW)).mono ?_
        rintro e w3 ⟨rfl, hb3⟩
        replace kA := Blk.by hb3 kA
        replace kM := Blk.by hb3 kM
        replace kR := Blk.by hb3 kR
        replace hW := below_on hb3 hW
        clear hb3 qA qM lA lM
        have qA := kA.cell
        have qM := kM.cell
        have lA := kA.lt
        have lM := kM.lt
        go_wp2_with fail
        refine (HR.out _ _ (HN.out.by hW) (HS.out.by hW)).mono ?_
        rintro e w4 ⟨v4, rfl, hO, hb4⟩
        have hlo := kR.lt
        have hs43 := hb4.size
        replace kA := Blk.by hb4 kA
        replace kM := Blk.by hb4 kM
        replace kR := Blk.by hb4 kR
        replace hW := below_on hb4 hW
        clear hb4 qA qM lA lM
        have qA := kA.cell
        have qM := kM.cell
        have lA := kA.lt
        have lM := kM.lt
        obtain ⟨s1, s2, lo1, hi1, lo2, hi2, rfl, hOD, hOP, hi1', hi2', hap⟩ := hO
        simp only [renS, HRD.out, HRP.out] at hOD hOP
        obtain ⟨f, pv, hAT, hinj⟩ := hOD.at
        obtain ⟨a1, c1, rfl⟩ := hOD.sl.sized
        obtain ⟨a2, c2, rfl⟩ := hOP.sl.sized
        have hN4 : NlV w4 (.agg #[.int .i64 (m : Int), .slice a1 RD.length c1, .slice a2 RP.length c2]) ⟨(m : Int), RD, RP⟩ := ⟨_, _, rfl, hOD.sl, hOP.sl⟩
        have HN4 := Lib.hid hN4
        have HCP := Lib.hid (fun w h => HCP.out (.agg #[.int .i64 (m : Int), .slice a1 RD.length c1, .slice a2 RP.length c2]) w h)
        simp only [renS, HRD.out, HRP.out] at HCP
        have hrl : RD.length = ds.length := by rw [← HRD.out, List.length_map]
        have HAT := Lib.hid hAT
        have HINJ := Lib.hid hinj
        have HFR := Lib.hid (show ∀ (i : Nat) x, RD[i]? = some x → lo1 ≤ f i ∧ f i < hi1 from fun i x hx => (hAT i x hx).2.2)
        have HP2R := Lib.hid (show permB zs (RD.length : Int) = true by rw [hrl]; exact HP2.out)
        have HZR := Lib.hid (show zs.length = RD.length by rw [hrl]; exact HZL.out)
        have hk4 := kR.lt
        have hd24' : RD.length ≤ 24 := by omega
        obtain ⟨X, hX⟩ : ∃ X, w4.heap.size = X := ⟨_, rfl⟩
        rw [hX] at hi1' hi2' hk4
        have h3X : w3.heap.size ≤ X := by omega
        have HX := Lib.hid hX
        clear hOD hOP hAT hinj hX hrl hN4
        go_wp2_with fail
        have hal : Below w4.heap.size w4 (w4.alloc (.cells #[.int .i64 (m : Int), .slice a1 RD.length c1, .slice a2 RP.length c2] 35)) := (Below.refl _ w4).alloc (Nat.le_refl _) _
        refine (HCP.out _ (HN4.out.by hal)).mono ?_
        rintro e w5 ⟨v5, rfl, hO, hb5⟩
        rw [HX.out]
        obtain ⟨s3, s4, lo3, hi3, lo4, hi4, rfl, hOD3, hOP4, hi3', hi4', hap3⟩ := hO
        simp only [World.size_alloc, HX.out] at hi3' hi4'
        obtain ⟨a3, c3, rfl⟩ := hOD3.sl.sized
        obtain ⟨a4, c4, rfl⟩ := hOP4.sl.sized
        dsimp only at hOD3 hOP4
        obtain ⟨P, hPP, hPr⟩ := hOP4.pick w.heap.size
        have HPP := Lib.hid hPP
        have kX : Blk w5 X #[.int .i64 (m : Int), .slice a1 RD.length c1, .slice a2 RP.length c2] 35 := Blk.by hb5 (Blk.new _ HX.out.symm)
        replace kR := Blk.by hb5 (Blk.by hal kR)
        replace kM := Blk.by hb5 (Blk.by hal kM)
        replace HAT := Lib.hid ((HAT.out.by hal).by hb5)
        replace hW := below_on hb5 (hW.trans (hal.mono (by have := HX.out; omega)))
        have HZB := Lib.hid HZ.out
        have hsz5 := hb5.size
        simp only [World.size_alloc, HX.out] at hsz5
        clear hOP4 hPP hb5 hal kA qA qM lA lM HN HS HR HV HO1 HO2 HX HCP HN4
        have qX := kX.cell
        obtain ⟨Y, hY⟩ : ∃ Y, w5.heap.size = Y := ⟨_, rfl⟩
        rw [hY] at hi3' hi4' hsz5
        have hXY : X < Y := by omega
        have hRY : w.heap.size + 1 + 1 < X := hk4
        rcases Nat.eq_zero_or_pos RD.length with hz0 | hz0
        · obtain rfl : RD = [] := List.eq_nil_of_length_eq_zero hz0
          have hz00 : zs.length = 0 := HZR.out
          obtain rfl : zs = [] := List.eq_nil_of_length_eq_zero hz00
          have hPR : P ≠ w.heap.size + 1 + 1 := by omega
          have hPY : P < Y := by omega
          have hPw : w.heap.size ≤ P := by omega
          clear hz0 hz00 hOD3 kM
          go_wp2
          obtain ⟨wA, hwA⟩ : ∃ wA, wA = w5.alloc (.cells #[.int .i64 (m : Int), .slice a3 0 c3, .slice a4 RP.length c4] 35) := ⟨_, rfl⟩
          have hal : Below w5.heap.size w5 wA := by rw [hwA]; exact (Below.refl _ w5).alloc (Nat.le_refl _) _
          have kY : Blk wA Y #[.int .i64 (m : Int), .slice a3 0 c3, .slice a4 RP.length c4] 35 := by rw [hwA]; exact Blk.new _ hY.symm
          have kRA := Blk.by hal kR
          have HPPA := Lib.hid (HPP.out.by hal)
          have hWA := below_on hal hW
          rw [← hwA]; (try rw [hY])
          clear hwA hal kX kR HAT HPP hW qX hY
          go_loopw [43] (fun i wr => i = .int .i64 0 ∧ wr = wA) (fun _ _ => 0)
          case atStart => exact ⟨rfl, rfl⟩
          case round =>
            obtain ⟨rfl, rfl⟩ := hrel
            have qY := kY.cell
            have lY := kY.lt
            have qR := kRA.cell
            have fR := kRA.free
            have lR := kRA.lt
            go_wp2
            refine bodyPost_ret (v := .tuple #[.agg #[.int .i64 (m : Int), .slice a3 0 c3, .slice a4 RP.length c4], .int .i64 0]) (by simp [results, Tryz.results30, go_sem, *]) rfl ⟨_, rfl, ⟨_, _, P, rfl, .inl ⟨_, _, rfl, by simp [ordD, invS, invTo]⟩, ?_, ⟨by omega, by simp; omega⟩⟩, blwT⟩
            exact ((HPPA.out.past (Within.off _) (by omega)).past (Within.off _) (by omega)).past (Within.off _) (by omega)
        · obtain ⟨gO, hgO, csz, hO0, hOw⟩ : ∃ gO, (lo3 ≤ gO ∧ gO < hi3) ∧ ∃ cs0 : Array Value, (a3 = some ⟨gO, 0, none⟩ ∧ RD.length ≤ c3 ∧ c3 ≤ maxLen ∧ RD.length * 4 ≤ cs0.size) ∧ Blk w5 gO cs0 62 := by
            rcases hOD3 with ⟨_, _, _, e⟩ | ⟨g, cap, cs, f, e1, e2, e3, e4, e5, e6, e7⟩
            · rw [e] at hz0; simp at hz0
            · obtain ⟨rfl, rfl⟩ : a3 = some ⟨g, 0, none⟩ ∧ c3 = cap := by simpa using e1
              refine ⟨g, e2, cs, ⟨rfl, e3, e4, ?_⟩, e5⟩
              have hl : RD.length - 1 < RD.length := by omega
              obtain ⟨⟨pv', ⟨_, _, _, hc⟩, _⟩, _⟩ := e6 (RD.length - 1) _ (List.getElem?_eq_getElem hl)
              have := (Array.getElem?_eq_some_iff.1 hc).1
              omega
          obtain ⟨rfl, hcap, hmax, hcz⟩ := hO0
          have hgP : gO ≠ P := by omega
          have hPR : P ≠ w.heap.size + 1 + 1 := by omega
          have hPY : P < Y := by omega
          have hPw : w.heap.size ≤ P := by omega
          clear hOD3
          go_wp2
          obtain ⟨wA, hwA⟩ : ∃ wA, wA = w5.alloc (.cells #[.int .i64 (m : Int), .slice (some ⟨gO, 0, none⟩) RD.length c3, .slice a4 RP.length c4] 35) := ⟨_, rfl⟩
          have hal : Below w5.heap.size w5 wA := by rw [hwA]; exact (Below.refl _ w5).alloc (Nat.le_refl _) _
          have kY : Blk wA Y #[.int .i64 (m : Int), .slice (some ⟨gO, 0, none⟩) RD.length c3, .slice a4 RP.length c4] 35 := by rw [hwA]; exact Blk.new _ hY.symm
          have kXA := Blk.by hal kX
          have kRA := Blk.by hal kR
          have kMA := Blk.by hal kM
          have kOA := Blk.by hal hOw
          have HATA := Lib.hid (HAT.out.by hal)
          have HPPA := Lib.hid (HPP.out.by hal)
          have hWA := below_on hal hW
          rw [← hwA]; (try rw [hY])
          clear hwA hal kX kR kM hOw HAT HPP hW qX hY
          go_loopw [43] (fun i wr => ∃ k : Nat, k ≤ RD.length ∧ i = .int .i64 k ∧ Blk wr X #[.int .i64 (m : Int), .slice a1 RD.length c1, .slice a2 RP.length c2] 35 ∧ Blk wr Y #[.int .i64 (m : Int), .slice (some ⟨gO, 0, none⟩) RD.length c3, .slice a4 RP.length c4] 35 ∧ Blk wr (w.heap.size + 1) #[.slice am names.length cm, .slice an zs.length cn] 29 ∧ Blk wr (w.heap.size + 1 + 1) #[.int .i64 0, .slice none 0 0, .slice none 0 0] 35 ∧
            (∃ cs : Array Value, Blk wr gO cs 62 ∧ cs.size = csz.size ∧ Hid (∀ (i : Nat) (z : Int) (x : Dv), i < k → zs[i]? = some z → RD[i]? = some x → Cs4 cs z.toNat (.int .i64 x.kind) (pv i) (.int .i64 x.wd) (.int .i64 x.len))) ∧
            Hid (DsAt wr lo1 hi1 (.slice a1 RD.length c1) RD f pv) ∧ Hid (OwnPs wr P (P + 1) (.slice a4 RP.length c4) RP) ∧ Below w.heap.size w wr) (fun i _ => RD.length - (intOf i).toNat)
          case atStart => exact ⟨0, Nat.zero_le _, rfl, kXA, kY, kMA, kRA, ⟨csz, kOA, rfl, Lib.hid (fun i z x h => by omega)⟩, HATA, HPPA, hWA⟩
          case round =>
            clear kXA kY kRA kMA kOA HATA HPPA hWA
            obtain ⟨k, hk, rfl, kX, kY, kM, kR, ⟨cs, kO, hsz, HC⟩, HAT, HPP, hb⟩ := hrel
            by_cases hlt : k < RD.length
            · obtain ⟨d, hd⟩ : ∃ d, RD[k]? = some d := ⟨RD[k], List.getElem?_eq_getElem hlt⟩
              obtain ⟨⟨g, cap, ct, hsv, hg, kG, d0, d1, d2, d3⟩, hOR, hf⟩ := HAT.out k d hd
              obtain ⟨rfl, rfl⟩ : a1 = some ⟨g, 0, none⟩ ∧ c1 = cap := by simpa using hsv
              obtain ⟨z, hz⟩ : ∃ z, zs[k]? = some z := ⟨zs[k]'(by rw [HZR.out]; exact hlt), List.getElem?_eq_getElem _⟩
              obtain ⟨hz1, hz2⟩ := (permB_iff.1 HP2R.out).2.2 z (List.mem_of_getElem? hz)
              obtain ⟨q, rfl⟩ : ∃ q : Nat, z = q := ⟨z.toNat, by omega⟩
              rcases HZB.out.by hb with ⟨_, _, _, e4⟩ | ⟨zb, zo, zcap, hze, _, _, hzc⟩
              · rw [e4] at hz; simp at hz
              obtain ⟨rfl, rfl⟩ : an = some ⟨zb, zo, none⟩ ∧ cn = zcap := by simpa using hze
              have e5 := hzc k q hz
              have hq4 : q * 4 + 3 < cs.size := by omega
              obtain ⟨u0, t0⟩ : ∃ u, cs[q * 4]? = some u := ⟨_, Array.getElem?_eq_getElem (by omega)⟩
              obtain ⟨u1, t1⟩ : ∃ u, cs[q * 4 + 1]? = some u := ⟨_, Array.getElem?_eq_getElem (by omega)⟩
              obtain ⟨u2, t2⟩ : ∃ u, cs[q * 4 + 2]? = some u := ⟨_, Array.getElem?_eq_getElem (by omega)⟩
              obtain ⟨u3, t3⟩ : ∃ u, cs[q * 4 + 3]? = some u := ⟨_, Array.getElem?_eq_getElem (by omega)⟩
              have i1 : (0 : Int) ≤ (k : Int) := by omega
              have i2 : (k : Int) < (RD.length : Int) := by omega
              have i2' : (k : Int) < (zs.length : Int) := by have := HZR.out; omega
              have i3 : (0 : Int) ≤ (q : Int) := by omega
              have i4 : (q : Int) < (RD.length : Int) := by omega
              have HD := Lib.hid hd
              have HZK := Lib.hid hz
              have HSZ := Lib.hid hsz
              have HQ := Lib.hid hq4
              obtain ⟨ap, cp, hpv⟩ := hOR.sl.len
              rw [hpv] at d1
              have HPV := Lib.hid hpv
              have qG := kG.cell
              have qY := kY.cell
              have qM := kM.cell
              have qO := kO.cell
              have fO := kO.free
              have lO := kO.lt
              have lY := kY.lt
              have lM := kM.lt
              have lR := kR.lt
              have lX := kX.lt
              have lG := kG.lt
              have lz := lt_of_cell e5
              dsimp only at lz
              clear hd hz hsv hze hzc hOR hsz hq4 hpv
              go_wp2_with fail
              go_region
              all_goals go_wp2_with fail
              have hWi : Within gO (gO + 1) wr ((((wr.setCell ⟨gO, q * 4, none⟩ (.int .i64 d.kind)).setCell ⟨gO, q * 4 + 1, none⟩ (.slice ap d.pins.length cp)).setCell ⟨gO, q * 4 + 2, none⟩ (.int .i64 d.wd)).setCell ⟨gO, q * 4 + 3, none⟩ (.int .i64 d.len)) := ((((Within.refl gO (gO + 1) wr).set gO _ _ (Nat.le_refl _) (by omega)).set gO _ _ (Nat.le_refl _) (by omega)).set gO _ _ (Nat.le_refl _) (by omega)).set gO _ _ (Nat.le_refl _) (by omega)
              have kO4 : Blk ((((wr.setCell ⟨gO, q * 4, none⟩ (.int .i64 d.kind)).setCell ⟨gO, q * 4 + 1, none⟩ (.slice ap d.pins.length cp)).setCell ⟨gO, q * 4 + 2, none⟩ (.int .i64 d.wd)).setCell ⟨gO, q * 4 + 3, none⟩ (.int .i64 d.len)) gO (putA4 cs q (.int .i64 d.kind) (.slice ap d.pins.length cp) (.int .i64 d.wd) (.int .i64 d.len)) 62 := (((kO.set _ _).set _ _).set _ _).set _ _
              generalize (((wr.setCell ⟨gO, q * 4, none⟩ (.int .i64 d.kind)).setCell ⟨gO, q * 4 + 1, none⟩ (.slice ap d.pins.length cp)).setCell ⟨gO, q * 4 + 2, none⟩ (.int .i64 d.wd)).setCell ⟨gO, q * 4 + 3, none⟩ (.int .i64 d.len) = wS at *
              have hbS : Below wS.heap.size wS (wS.alloc (.cells #[.int .i64 d.kind, .slice ap d.pins.length cp, .int .i64 d.wd, .int .i64 d.len] 62)).drew := ((Below.refl _ _).alloc (Nat.le_refl _) _).drew
              have hbW := hWi.below hb (by omega)
              refine ⟨⟨k + 1, by omega, by go_num, Blk.by hbS (hWi.blk kX (by omega)), Blk.by hbS (hWi.blk kY (by omega)), Blk.by hbS (hWi.blk kM (by omega)), Blk.by hbS (hWi.blk kR (by omega)), ⟨_, Blk.by hbS kO4, by rw [size_putA4]; exact HSZ.out, Lib.hid (fun i z x hik hz hx => ?_)⟩, Lib.hid ((HAT.out.past hWi (by omega)).by hbS), Lib.hid ((HPP.out.past hWi (by omega)).by hbS), hbW.trans (hbS.mono (by have := hbW.size; omega))⟩, by simp [intOf]; omega⟩
              by_cases e : i = k
              · subst e
                rw [HZK.out] at hz
                rw [HD.out] at hx
                cases hz
                cases hx
                rw [HPV.out, Int.toNat_natCast]
                exact putA4_same _ _ _ _ HQ.out
              · refine putA4_other _ _ _ _ (fun e' => ?_) (HC.out i z x (by omega) hz hx)
                have hz0 := (permB_iff.1 HP2R.out).2.2 z (List.mem_of_getElem? hz)
                obtain rfl : z = q := by omega
                have := permB_dup (n := (RD.length : Int)) (show i < k by omega) hz HZK.out
                rw [HP2R.out] at this
                cases this
            · obtain rfl : k = RD.length := by omega
              have hXD : OwnDsX wr w3.heap.size Y P (.slice (some ⟨gO, 0, none⟩) RD.length c3) (ordD zs RD) := by
                refine .inr ⟨gO, c3, cs, fun i => f ((invS zs).getD i 0).toNat, by rw [length_ordD, HZR.out], ⟨⟨by omega, by omega⟩, hgP⟩, by rw [length_ordD, HZR.out]; exact hcap, hmax, kO, fun i x hx => ?_, fun i i' hi1 hi2 hne' => ?_⟩
                · obtain ⟨j, q1, q2, q3⟩ := ordD_inv HP2R.out i x hx
                  have hin : (invS zs).getD i 0 = (j : Int) := by simp [List.getD_eq_getElem?_getD, q1]
                  have hC4 := HC.out j i x (List.getElem?_eq_some_iff.1 q3).1 q2 q3
                  rw [Int.toNat_natCast] at hC4
                  obtain ⟨_, hOR, hf⟩ := HAT.out j x q3
                  (try dsimp only)
                  rw [hin, Int.toNat_natCast]
                  exact ⟨⟨pv j, hC4, hOR⟩, by omega, by omega, by omega, by omega⟩
                · rw [length_ordD] at hi1 hi2
                  obtain ⟨x1, hx1⟩ : ∃ x1, (ordD zs RD)[i]? = some x1 := ⟨(ordD zs RD)[i]'(by rw [length_ordD]; exact hi1), List.getElem?_eq_getElem _⟩
                  obtain ⟨x2, hx2⟩ : ∃ x2, (ordD zs RD)[i']? = some x2 := ⟨(ordD zs RD)[i']'(by rw [length_ordD]; exact hi2), List.getElem?_eq_getElem _⟩
                  obtain ⟨j1, q1, q2, q3⟩ := ordD_inv HP2R.out i x1 hx1
                  obtain ⟨j2, r1, r2, r3⟩ := ordD_inv HP2R.out i' x2 hx2
                  have e1 : (invS zs).getD i 0 = (j1 : Int) := by simp [List.getD_eq_getElem?_getD, q1]
                  have e2 : (invS zs).getD i' 0 = (j2 : Int) := by simp [List.getD_eq_getElem?_getD, r1]
                  (try dsimp only)
                  rw [e1, e2, Int.toNat_natCast, Int.toNat_natCast]
                  refine HINJ.out j1 j2 (List.getElem?_eq_some_iff.1 q3).1 (List.getElem?_eq_some_iff.1 r3).1 (fun e => hne' ?_)
                  subst e
                  exact invS_inj HP2R.out i i' _ q1 r1
              have HXD := Lib.hid hXD
              have qY := kY.cell
              have lY := kY.lt
              have qR := kR.cell
              have fR := kR.free
              have lR := kR.lt
              clear hXD
              go_wp2
              refine bodyPost_ret (v := .tuple #[.agg #[.int .i64 (m : Int), .slice (some ⟨gO, 0, none⟩) RD.length c3, .slice a4 RP.length c4], .int .i64 0]) (by simp [results, Tryz.results30, go_sem, *]) rfl ⟨_, rfl, ⟨_, _, P, rfl, ?_, ?_, ⟨by omega, by simp; omega⟩⟩, blwT⟩
              · refine OwnDsX.wide (lo := w3.heap.size) (hi := Y) ?_ (by omega) (by simp; omega)
                exact ((HXD.out.past (Within.off _) (by omega)).past (Within.off _) (by omega)).past (Within.off _) (by omega)
              · exact ((HPP.out.past (Within.off _) (by omega)).past (Within.off _) (by omega)).past (Within.off _) (by omega)
  · rw [if_neg hb] at hrc hrr
    have hbf : nlB x = false := by simpa using hb
    rw [hbf] at HV
    subst hrc hrr
    clear h hm1 hm2 hok hnn hb hbf
    go_enter Tryz.func30, Tryz.ntmps30
    go_wp2_with fail
    refine (HV.out _ _ (HN.out.by blwT)).mono ?_
    rintro e w1 ⟨rfl, hb1⟩
    have kR : Blk w1 (w.heap.size + 1 + 1) #[.int .i64 0, .slice none 0 0, .slice none 0 0] 35 := blkT
    have hW : Below w.heap.size w w1 := blwT
    have qR := kR.cell
    have fR := kR.free
    have lR := kR.lt
    clear hb1
    go_wp2
    exact bodyPost_ret (v := .tuple #[.agg #[.int .i64 0, .slice none 0 0, .slice none 0 0], .int .i64 1]) (by simp [results, Tryz.results30, go_sem, *]) rfl ⟨_, rfl, nlZeroX _ _ _ (by simp; omega), blwT⟩
set_option maxRecDepth 100000 in
set_option maxHeartbeats 4000000 in
theorem implIso_any (x y : Nl) (m : List Int × List Int) (v u t : Value) (w : World) (h : NlV w v x) (h' : NlV w u y) (hm : MaV w t m) (hok : ∀ p ∈ x.ps, p.ok) (hok' : ∀ p ∈ y.ps, p.ok) (hnn : Fits x.nets) (hnn' : Fits y.nets) (hl : m.1.length ≤ 1048576) (hl' : m.2.length ≤ 1048576) :
    Calls Tryz.prog 26 #[v, u, t] w fun e w' => e = .returned (.bool (isoB x y m)) ∧ Below w.heap.size w w' := by
  have HVa := Lib.hid (fun v w h => implNl_any x v w h hok hnn)
  have HVb := Lib.hid (fun v w h => implNl_any y v w h hok' hnn')
  have HNa := Lib.hid h
  have HNb := Lib.hid h'
  obtain ⟨s1, s2, rfl, hm1, hm2⟩ := hm
  obtain ⟨names, zs⟩ := m
  dsimp only at hm1 hm2 hl hl'
  have HS := Lib.hid hm1
  have HZ := Lib.hid hm2
  obtain ⟨R, hR⟩ : ∃ r, isoB x y (names, zs) = r := ⟨_, rfl⟩
  rw [hR]
  obtain ⟨a1, c1, a2, c2, rfl⟩ := h.sized
  obtain ⟨b1, d1, b2, d2, rfl⟩ := h'.sized
  obtain ⟨am, cm, rfl⟩ := hm1.len
  obtain ⟨an, cn, rfl⟩ := hm2.len
  obtain ⟨nets, ds, ps⟩ := x
  obtain ⟨nets', ds', ps'⟩ := y
  dsimp only at *
  cases hva : nlB ⟨nets, ds, ps⟩ with
  | false =>
    rw [hva] at HVa
    have HR := Lib.hid (show R = false by rw [← hR]; simp [isoB, hva])
    clear h h' hm1 hm2 hok hok' hnn hnn' hR hva
    go_enter Tryz.func26, Tryz.ntmps26
    go_wp2_with fail
    refine (HVa.out _ _ (HNa.out.by blwT)).mono ?_
    rintro e w1 ⟨rfl, hb1⟩
    have kA : Blk w1 w.heap.size #[.int .i64 nets, .slice a1 ds.length c1, .slice a2 ps.length c2] 35 := blkT
    have kB : Blk w1 (w.heap.size + 1) #[.int .i64 nets', .slice b1 ds'.length d1, .slice b2 ps'.length d2] 35 := blkT
    have kM : Blk w1 (w.heap.size + 1 + 1) #[.slice am names.length cm, .slice an zs.length cn] 29 := blkT
    have hW : Below w.heap.size w w1 := blwT
    have qA := kA.cell
    have qB := kB.cell
    have qM := kM.cell
    clear hb1
    go_wp2
    go_ret
    exact ⟨ret_bool HR.out.symm, blwT⟩
  | true =>
    rw [hva] at HVa
    obtain ⟨⟨hn0, hn1⟩, hd24, hp8, hdv, _⟩ := nlB_facts hva
    have hnet := nl_netsI hva
    dsimp only at hn0 hn1 hd24 hp8 hdv hnet
    obtain ⟨n, rfl⟩ : ∃ n : Nat, nets = n := ⟨nets.toNat, by omega⟩
    cases hvb : nlB ⟨nets', ds', ps'⟩ with
    | false =>
      rw [hvb] at HVb
      have HR := Lib.hid (show R = false by rw [← hR]; simp [isoB, hvb])
      clear h h' hm1 hm2 hok hok' hnn hnn' hR hva hvb hdv hnet
      go_enter Tryz.func26, Tryz.ntmps26
      go_wp2_with fail
      refine (HVa.out _ _ (HNa.out.by blwT)).mono ?_
      rintro e w1 ⟨rfl, hb1⟩
      have kA : Blk w1 w.heap.size #[.int .i64 (n : Int), .slice a1 ds.length c1, .slice a2 ps.length c2] 35 := blkT
      have kB : Blk w1 (w.heap.size + 1) #[.int .i64 nets', .slice b1 ds'.length d1, .slice b2 ps'.length d2] 35 := blkT
      have kM : Blk w1 (w.heap.size + 1 + 1) #[.slice am names.length cm, .slice an zs.length cn] 29 := blkT
      have hW : Below w.heap.size w w1 := blwT
      have qA := kA.cell
      have qB := kB.cell
      have qM := kM.cell
      clear hb1
      go_wp2_with fail
      refine (HVb.out _ _ (HNb.out.by hW)).mono ?_
      rintro e w2 ⟨rfl, hb2⟩
      replace kA := Blk.by hb2 kA
      replace kB := Blk.by hb2 kB
      replace kM := Blk.by hb2 kM
      replace hW := below_on hb2 hW
      clear hb2 qA qB qM
      have qA := kA.cell
      have qB := kB.cell
      have qM := kM.cell
      go_wp2
      go_ret
      exact ⟨ret_bool HR.out.symm, blwT⟩
    | true =>
      rw [hvb] at HVb
      obtain ⟨_, hd24', hp8', hdv', _⟩ := nlB_facts hvb
      dsimp only at hd24' hp8' hdv'
      by_cases hnq : ¬ (n : Int) = nets'
      · have e1 : ((n : Int) != nets') = true := by simpa using hnq
        have HR := Lib.hid (show R = false by rw [← hR]; simp [isoB, hnq])
        clear h h' hm1 hm2 hok hok' hnn hnn' hR hva hvb hdv hnet hdv' hnq
        go_enter Tryz.func26, Tryz.ntmps26
        go_wp2_with fail
        refine (HVa.out _ _ (HNa.out.by blwT)).mono ?_
        rintro e w1 ⟨rfl, hb1⟩
        have kA : Blk w1 w.heap.size #[.int .i64 (n : Int), .slice a1 ds.length c1, .slice a2 ps.length c2] 35 := blkT
        have kB : Blk w1 (w.heap.size + 1) #[.int .i64 nets', .slice b1 ds'.length d1, .slice b2 ps'.length d2] 35 := blkT
        have kM : Blk w1 (w.heap.size + 1 + 1) #[.slice am names.length cm, .slice an zs.length cn] 29 := blkT
        have hW : Below w.heap.size w w1 := blwT
        have qA := kA.cell
        have qB := kB.cell
        have qM := kM.cell
        clear hb1
        go_wp2_with fail
        refine (HVb.out _ _ (HNb.out.by hW)).mono ?_
        rintro e w2 ⟨rfl, hb2⟩
        replace kA := Blk.by hb2 kA
        replace kB := Blk.by hb2 kB
        replace kM := Blk.by hb2 kM
        replace hW := below_on hb2 hW
        clear hb2 qA qB qM
        have qA := kA.cell
        have qB := kB.cell
        have qM := kM.cell
        go_wp2
        go_ret
        exact ⟨ret_bool HR.out.symm, blwT⟩
      replace hnq := Decidable.not_not.1 hnq
      subst hnq
      by_cases hdq : ¬ ds.length = ds'.length
      · have e2 : ((ds.length : Int) != (ds'.length : Int)) = true := by simp; omega
        have HR := Lib.hid (show R = false by rw [← hR]; simp [isoB, hdq])
        clear h h' hm1 hm2 hok hok' hnn hnn' hR hva hvb hdv hnet hdv' hdq
        go_enter Tryz.func26, Tryz.ntmps26
        go_wp2_with fail
        refine (HVa.out _ _ (HNa.out.by blwT)).mono ?_
        rintro e w1 ⟨rfl, hb1⟩
        have kA : Blk w1 w.heap.size #[.int .i64 (n : Int), .slice a1 ds.length c1, .slice a2 ps.length c2] 35 := blkT
        have kB : Blk w1 (w.heap.size + 1) #[.int .i64 (n : Int), .slice b1 ds'.length d1, .slice b2 ps'.length d2] 35 := blkT
        have kM : Blk w1 (w.heap.size + 1 + 1) #[.slice am names.length cm, .slice an zs.length cn] 29 := blkT
        have hW : Below w.heap.size w w1 := blwT
        have qA := kA.cell
        have qB := kB.cell
        have qM := kM.cell
        clear hb1
        go_wp2_with fail
        refine (HVb.out _ _ (HNb.out.by hW)).mono ?_
        rintro e w2 ⟨rfl, hb2⟩
        replace kA := Blk.by hb2 kA
        replace kB := Blk.by hb2 kB
        replace kM := Blk.by hb2 kM
        replace hW := below_on hb2 hW
        clear hb2 qA qB qM
        have qA := kA.cell
        have qB := kB.cell
        have qM := kM.cell
        go_wp2
        go_ret
        exact ⟨ret_bool HR.out.symm, blwT⟩
      replace hdq := Decidable.not_not.1 hdq
      have e2 : ((ds.length : Int) != (ds'.length : Int)) = false := by simp; omega
      have HDQ := Lib.hid hdq
      by_cases hpq : ¬ ps.length = ps'.length
      · have e3 : ((ps.length : Int) != (ps'.length : Int)) = true := by simp; omega
        have HR := Lib.hid (show R = false by rw [← hR]; simp [isoB, hpq])
        clear h h' hm1 hm2 hok hok' hnn hnn' hR hva hvb hdv hnet hdv' hdq hpq
        go_enter Tryz.func26, Tryz.ntmps26
        go_wp2_with fail
        refine (HVa.out _ _ (HNa.out.by blwT)).mono ?_
        rintro e w1 ⟨rfl, hb1⟩
        have kA : Blk w1 w.heap.size #[.int .i64 (n : Int), .slice a1 ds.length c1, .slice a2 ps.length c2] 35 := blkT
        have kB : Blk w1 (w.heap.size + 1) #[.int .i64 (n : Int), .slice b1 ds'.length d1, .slice b2 ps'.length d2] 35 := blkT
        have kM : Blk w1 (w.heap.size + 1 + 1) #[.slice am names.length cm, .slice an zs.length cn] 29 := blkT
        have hW : Below w.heap.size w w1 := blwT
        have qA := kA.cell
        have qB := kB.cell
        have qM := kM.cell
        clear hb1
        go_wp2_with fail
        refine (HVb.out _ _ (HNb.out.by hW)).mono ?_
        rintro e w2 ⟨rfl, hb2⟩
        replace kA := Blk.by hb2 kA
        replace kB := Blk.by hb2 kB
        replace kM := Blk.by hb2 kM
        replace hW := below_on hb2 hW
        clear hb2 qA qB qM
        have qA := kA.cell
        have qB := kB.cell
        have qM := kM.cell
        go_wp2
        go_ret
        exact ⟨ret_bool HR.out.symm, blwT⟩
      replace hpq := Decidable.not_not.1 hpq
      have e3 : ((ps.length : Int) != (ps'.length : Int)) = false := by simp; omega
      have HPQ := Lib.hid hpq
      have HO1 := Lib.hid (fun w h => implOrder_any (.slice am names.length cm) names n w h hl)
      have HO2 := Lib.hid (fun w h => implOrder_any (.slice an zs.length cn) zs ds.length w h hl')
      cases hp1 : permB names (n : Int) with
      | false =>
        rw [hp1] at HO1
        have HR := Lib.hid (show R = false by rw [← hR]; simp [isoB, hp1])
        clear h h' hm1 hm2 hok hok' hnn hnn' hR hva hvb hdv hnet hdv' hdq hp1 hpq
        go_enter Tryz.func26, Tryz.ntmps26
        go_wp2_with fail
        refine (HVa.out _ _ (HNa.out.by blwT)).mono ?_
        rintro e w1 ⟨rfl, hb1⟩
        have kA : Blk w1 w.heap.size #[.int .i64 (n : Int), .slice a1 ds.length c1, .slice a2 ps.length c2] 35 := blkT
        have kB : Blk w1 (w.heap.size + 1) #[.int .i64 (n : Int), .slice b1 ds'.length d1, .slice b2 ps'.length d2] 35 := blkT
        have kM : Blk w1 (w.heap.size + 1 + 1) #[.slice am names.length cm, .slice an zs.length cn] 29 := blkT
        have hW : Below w.heap.size w w1 := blwT
        have qA := kA.cell
        have qB := kB.cell
        have qM := kM.cell
        clear hb1
        go_wp2_with fail
        refine (HVb.out _ _ (HNb.out.by hW)).mono ?_
        rintro e w2 ⟨rfl, hb2⟩
        replace kA := Blk.by hb2 kA
        replace kB := Blk.by hb2 kB
        replace kM := Blk.by hb2 kM
        replace hW := below_on hb2 hW
        clear hb2 qA qB qM
        have qA := kA.cell
        have qB := kB.cell
        have qM := kM.cell
        go_wp2_with fail
        refine (HO1.out _ (HS.out.by hW)).mono ?_
        rintro e w3 ⟨rfl, hb3⟩
        replace kA := Blk.by hb3 kA
        replace kB := Blk.by hb3 kB
        replace kM := Blk.by hb3 kM
        replace hW := below_on hb3 hW
        clear hb3 qA qB qM
        have qA := kA.cell
        have qB := kB.cell
        have qM := kM.cell
        go_wp2
        go_ret
        exact ⟨ret_bool HR.out.symm, blwT⟩
      | true =>
        rw [hp1] at HO1
        have hlen : (names.length : Int) = n := (permB_iff.1 hp1).1
        cases hp2 : permB zs (ds.length : Int) with
        | false =>
          rw [hp2] at HO2
          have HR := Lib.hid (show R = false by rw [← hR]; simp [isoB, hp2])
          clear h h' hm1 hm2 hok hok' hnn hnn' hR hva hvb hdv hnet hdv' hdq hp1 hp2 hlen hpq
          go_enter Tryz.func26, Tryz.ntmps26
          go_wp2_with fail
          refine (HVa.out _ _ (HNa.out.by blwT)).mono ?_
          rintro e w1 ⟨rfl, hb1⟩
          have kA : Blk w1 w.heap.size #[.int .i64 (n : Int), .slice a1 ds.length c1, .slice a2 ps.length c2] 35 := blkT
          have kB : Blk w1 (w.heap.size + 1) #[.int .i64 (n : Int), .slice b1 ds'.length d1, .slice b2 ps'.length d2] 35 := blkT
          have kM : Blk w1 (w.heap.size + 1 + 1) #[.slice am names.length cm, .slice an zs.length cn] 29 := blkT
          have hW : Below w.heap.size w w1 := blwT
          have qA := kA.cell
          have qB := kB.cell
          have qM := kM.cell
          clear hb1
          go_wp2_with fail
          refine (HVb.out _ _ (HNb.out.by hW)).mono ?_
          rintro e w2 ⟨rfl, hb2⟩
          replace kA := Blk.by hb2 kA
          replace kB := Blk.by hb2 kB
          replace kM := Blk.by hb2 kM
          replace hW := below_on hb2 hW
          clear hb2 qA qB qM
          have qA := kA.cell
          have qB := kB.cell
          have qM := kM.cell
          go_wp2_with fail
          refine (HO1.out _ (HS.out.by hW)).mono ?_
          rintro e w3 ⟨rfl, hb3⟩
          replace kA := Blk.by hb3 kA
          replace kB := Blk.by hb3 kB
          replace kM := Blk.by hb3 kM
          replace hW := below_on hb3 hW
          clear hb3 qA qB qM
          have qA := kA.cell
          have qB := kB.cell
          have qM := kM.cell
          go_wp2_with fail
          refine (HO2.out _ (HZ.out.by hW)).mono ?_
          rintro e w4 ⟨rfl, hb4⟩
          replace kA := Blk.by hb4 kA
          replace kB := Blk.by hb4 kB
          replace kM := Blk.by hb4 kM
          replace hW := below_on hb4 hW
          clear hb4 qA qB qM
          have qA := kA.cell
          have qB := kB.cell
          have qM := kM.cell
          go_wp2
          go_ret
          exact ⟨ret_bool HR.out.symm, blwT⟩
        | true =>
          rw [hp2] at HO2
          have hx3 : ∀ d ∈ ds, d.pins.length ≤ 3 ∧ d.pins ≠ [] ∧ ∀ z ∈ d.pins, 0 ≤ z ∧ z < names.length := fun d hd => by
            have q := dvB_pins (hdv d hd)
            exact ⟨q.1, fun e => by rw [e] at q; simp at q, fun z hz => by have := q.2.2 z hz; omega⟩
          have hy3 : ∀ d ∈ ds', d.pins.length ≤ 3 := fun d hd => (dvB_pins (hdv' d hd)).1
          have hpn : ∀ p ∈ ps, 0 ≤ p.net ∧ p.net < names.length := fun p hp => by have := hnet p hp; omega
          have HP2 := Lib.hid hp2
          have HDS := Lib.hid (show DvSl w (.slice a1 ds.length c1) ds from (nlV_parts HNa.out).1)
          have HES := Lib.hid (show DvSl w (.slice b1 ds'.length d1) ds' from (nlV_parts HNb.out).1)
          have HMAP := Lib.hid (fun d sx w hd h hn => mapped_any d names sx (.slice am names.length cm) w h hn (hx3 d hd).1 (hx3 d hd).2.1 (hx3 d hd).2.2)
          have HNRM := Lib.hid (fun (d : Dv) sy w (hd : d ∈ ds') h => implNorm_any d.kind d.wd d.len sy d.pins w h (by have := hy3 d hd; omega))
          have HPN := Lib.hid hpn
          have HPS := Lib.hid (show PtSl w (.slice a2 ps.length c2) ps from (nlV_parts HNa.out).2)
          have HQS := Lib.hid (show PtSl w (.slice b2 ps'.length d2) ps' from (nlV_parts HNb.out).2)
          have HRR := Lib.hid (show R = (allB (prtAt ps ps' names) ps.length && allB (devAt ds ds' (names, zs)) ds.length) by rw [← hR]; simp only [isoB, hva, hvb, hp1, hp2, decide_eq_true hdq, decide_eq_true hpq, Bool.true_and, decide_true])
          have HPY := Lib.hid (@allB_yes (prtAt ps ps' names) ps.length)
          have HPF := Lib.hid (fun i h h' => @allB_no (prtAt ps ps' names) ps.length i h h')
          have HAY := Lib.hid (@allB_yes (devAt ds ds' (names, zs)) ds.length)
          have HAN := Lib.hid (fun i h h' => @allB_no (devAt ds ds' (names, zs)) ds.length i h h')
          have HPT := Lib.hid (fun i p q => @prtAt_of ps ps' names i p q)
          have HAT := Lib.hid (fun i j d e => @devAt_of ds ds' (names, zs) i j d e)
          clear h h' hm1 hm2 hok hok' hnn hnn' hR hva hvb hdv hnet hdv' hdq hpq hp1 hp2 hlen hx3 hy3 hpn
          go_enter Tryz.func26, Tryz.ntmps26
          go_wp2_with fail
          refine (HVa.out _ _ (HNa.out.by blwT)).mono ?_
          rintro e w1 ⟨rfl, hb1⟩
          have kA : Blk w1 w.heap.size #[.int .i64 (n : Int), .slice a1 ds.length c1, .slice a2 ps.length c2] 35 := blkT
          have kB : Blk w1 (w.heap.size + 1) #[.int .i64 (n : Int), .slice b1 ds'.length d1, .slice b2 ps'.length d2] 35 := blkT
          have kM : Blk w1 (w.heap.size + 1 + 1) #[.slice am names.length cm, .slice an zs.length cn] 29 := blkT
          have hW : Below w.heap.size w w1 := blwT
          have qA := kA.cell
          have qB := kB.cell
          have qM := kM.cell
          clear hb1
          go_wp2_with fail
          refine (HVb.out _ _ (HNb.out.by hW)).mono ?_
          rintro e w2 ⟨rfl, hb2⟩
          replace kA := Blk.by hb2 kA
          replace kB := Blk.by hb2 kB
          replace kM := Blk.by hb2 kM
          replace hW := below_on hb2 hW
          clear hb2 qA qB qM
          have qA := kA.cell
          have qB := kB.cell
          have qM := kM.cell
          go_wp2_with fail
          refine (HO1.out _ (HS.out.by hW)).mono ?_
          rintro e w3 ⟨rfl, hb3⟩
          replace kA := Blk.by hb3 kA
          replace kB := Blk.by hb3 kB
          replace kM := Blk.by hb3 kM
          replace hW := below_on hb3 hW
          clear hb3 qA qB qM
          have qA := kA.cell
          have qB := kB.cell
          have qM := kM.cell
          go_wp2_with fail
          refine (HO2.out _ (HZ.out.by hW)).mono ?_
          rintro e w4 ⟨rfl, hb4⟩
          replace kA := Blk.by hb4 kA
          replace kB := Blk.by hb4 kB
          replace kM := Blk.by hb4 kM
          replace hW := below_on hb4 hW
          clear hb4 qA qB qM
          have qA := kA.cell
          have qB := kB.cell
          have qM := kM.cell
          go_wp2
          go_loopw [63] (fun i wr => ∃ k : Nat, k ≤ ps.length ∧ i = .int .i64 k ∧ Hid (∀ j, j < k → prtAt ps ps' names j = true) ∧ Blk wr w.heap.size #[.int .i64 (n : Int), .slice a1 ds.length c1, .slice a2 ps.length c2] 35 ∧ Blk wr (w.heap.size + 1) #[.int .i64 (n : Int), .slice b1 ds'.length d1, .slice b2 ps'.length d2] 35 ∧ Blk wr (w.heap.size + 1 + 1) #[.slice am names.length cm, .slice an zs.length cn] 29 ∧ Below w.heap.size w wr) (fun i _ => ps.length - (intOf i).toNat)
          case atStart => exact ⟨0, Nat.zero_le _, rfl, Lib.hid (by intro j h; omega), kA, kB, kM, hW⟩
          case round =>
            clear kA kB kM hW qA qB qM
            obtain ⟨k, hk, rfl, HI, kA, kB, kM, hb⟩ := hrel
            have qA := kA.cell
            have qB := kB.cell
            have qM := kM.cell
            have lA := kA.lt
            have lB := kB.lt
            have lM := kM.lt
            by_cases hlt : k < ps.length
            · obtain ⟨p, hp⟩ : ∃ p, ps[k]? = some p := ⟨ps[k], List.getElem?_eq_getElem hlt⟩
              obtain ⟨q, hq⟩ : ∃ q, ps'[k]? = some q := ⟨ps'[k]'(by rw [← HPQ.out]; exact hlt), List.getElem?_eq_getElem _⟩
              obtain ⟨hp0, hp1⟩ := HPN.out p (List.mem_of_getElem? hp)
              have hat := HPT.out k p q hp hq
              rcases HPS.out with ⟨_, _, _, h2⟩ | ⟨pb, po, pc, he, _, _, h4⟩
              · rw [h2] at hp; simp at hp
              obtain ⟨rfl, rfl⟩ : a2 = some ⟨pb, po, none⟩ ∧ c2 = pc := by simpa using he
              rcases HQS.out with ⟨_, _, _, h2⟩ | ⟨qb, qo, qc, he', _, _, h4'⟩
              · rw [h2] at hq; simp at hq
              obtain ⟨rfl, rfl⟩ : b2 = some ⟨qb, qo, none⟩ ∧ d2 = qc := by simpa using he'
              obtain ⟨p1, p2⟩ := (h4 k p hp).by hb
              obtain ⟨q1, q2⟩ := (h4' k q hq).by hb
              obtain ⟨pn, hpn⟩ : ∃ n : Nat, p.net = n := ⟨p.net.toNat, by omega⟩
              rcases HS.out.by hb with ⟨_, _, _, h2⟩ | ⟨nb, no, nc, hen, _, _, hcn⟩
              · rw [h2] at hp1; simp at hp1; omega
              obtain ⟨rfl, rfl⟩ : am = some ⟨nb, no, none⟩ ∧ cm = nc := by simpa using hen
              have hpl : pn < names.length := by omega
              have c3 := hcn pn names[pn] (List.getElem?_eq_getElem hpl)
              have hnm : nmOf names p.net = names[pn] := by simp [nmOf, hpn, hpl]
              rw [hnm] at hat
              rw [hpn] at p2
              generalize names[pn] = z at *
              obtain ⟨name, net⟩ := p
              obtain ⟨name', net'⟩ := q
              dsimp only at *
              have HAT' := Lib.hid hat
              have l1 := lt_of_cell p1
              have l2 := lt_of_cell q1
              have l3 := lt_of_cell c3
              dsimp only at l1 l2 l3
              have i1 : (0 : Int) ≤ (k : Int) := by omega
              have i2 : (k : Int) < (ps.length : Int) := by omega
              have i2' : (k : Int) < (ps'.length : Int) := by have := HPQ.out; omega
              have i3 : (0 : Int) ≤ (pn : Int) := by omega
              have i4 : (pn : Int) < (names.length : Int) := by omega
              clear hp hq hat he he' hen hcn h4 h4' hnm hpn hp0 hp1
              cases hna : (name.toList == name'.toList) with
              | true =>
                rw [hna] at HAT'
                by_cases hnz : z = net'
                · subst hnz
                  have e4 : (z != z) = false := by simp
                  have e5 : (z == z) = true := by simp
                  go_wp2
                  go_quiet (fail)
                  go_wp2
                  refine ⟨⟨k + 1, by omega, by go_num, Lib.hid (fun j hj => ?_), blkT, blkT, blkT, blwT⟩, by simp [intOf]; omega⟩
                  by_cases ej : j = k
                  · subst ej; rw [HAT'.out]; simp
                  · exact HI.out j (by omega)
                · have e4 : (z != net') = true := by simpa using hnz
                  have e5 : (z == net') = false := by simpa using hnz
                  have hr := Lib.hid (show R = false by rw [HRR.out, HPF.out k hlt (by rw [HAT'.out]; simp [hnz])]; rfl)
                  clear hnz
                  go_wp2
                  go_quiet (fail)
                  go_wp2
                  go_ret
                  exact ⟨ret_bool hr.out.symm, blwT⟩
              | false =>
                rw [hna] at HAT'
                have hr := Lib.hid (show R = false by rw [HRR.out, HPF.out k hlt (by rw [HAT'.out]; simp)]; rfl)
                go_wp2
                go_quiet (fail)
                go_wp2
                go_ret
                exact ⟨ret_bool hr.out.symm, blwT⟩
            · obtain rfl : k = ps.length := by omega
              replace HRR := Lib.hid (show R = allB (devAt ds ds' (names, zs)) ds.length by rw [HRR.out, HPY.out (fun j hj => HI.out j hj)]; rfl)
              obtain ⟨wo, hwo⟩ : ∃ x : World, x = wr := ⟨_, rfl⟩
              subst hwo
              go_wp2
              go_loopw [93] (fun i wr => ∃ k : Nat, k ≤ ds.length ∧ i = .int .i64 k ∧ Hid (∀ j, j < k → devAt ds ds' (names, zs) j = true) ∧ Blk wr w.heap.size #[.int .i64 (n : Int), .slice a1 ds.length c1, .slice a2 ps.length c2] 35 ∧ Blk wr (w.heap.size + 1) #[.int .i64 (n : Int), .slice b1 ds'.length d1, .slice b2 ps'.length d2] 35 ∧ Blk wr (w.heap.size + 1 + 1) #[.slice am names.length cm, .slice an zs.length cn] 29 ∧ Below w.heap.size w wr) (fun i _ => ds.length - (intOf i).toNat)
              case atStart => exact ⟨0, Nat.zero_le _, rfl, Lib.hid (by intro j h; omega), kA, kB, kM, hb⟩
              case round =>
                clear kA kB kM hb qA qB qM HI lA lB lM
                obtain ⟨k, hk, rfl, HI, kA, kB, kM, hb⟩ := hrel
                have qA := kA.cell
                have lA := kA.lt
                have lB := kB.lt
                have lM := kM.lt
                by_cases hlt : k < ds.length
                · obtain ⟨x, hx⟩ : ∃ x, ds[k]? = some x := ⟨ds[k], List.getElem?_eq_getElem hlt⟩
                  have hzl : zs.length = ds.length := by have := (permB_iff.1 HP2.out).1; omega
                  obtain ⟨z, hz⟩ : ∃ z, zs[k]? = some z := ⟨zs[k]'(by omega), List.getElem?_eq_getElem _⟩
                  obtain ⟨hz1, hz2⟩ := (permB_iff.1 HP2.out).2.2 z (List.mem_of_getElem? hz)
                  obtain ⟨j, rfl⟩ : ∃ j : Nat, z = j := ⟨z.toNat, by omega⟩
                  have hjl : j < ds'.length := by have := HDQ.out; omega
                  obtain ⟨y, hy⟩ : ∃ y, ds'[j]? = some y := ⟨ds'[j], List.getElem?_eq_getElem hjl⟩
                  rcases HDS.out with ⟨_, _, _, h2⟩ | ⟨xb, xo, xc, he, _, _, hdc⟩
                  · rw [h2] at hx; simp at hx
                  obtain ⟨rfl, rfl⟩ : a1 = some ⟨xb, xo, none⟩ ∧ c1 = xc := by simpa using he
                  rcases HES.out with ⟨_, _, _, h2⟩ | ⟨yb, yo, yc, he', _, _, hec⟩
                  · rw [h2] at hy; simp at hy
                  obtain ⟨rfl, rfl⟩ : b1 = some ⟨yb, yo, none⟩ ∧ d1 = yc := by simpa using he'
                  rcases HZ.out with ⟨_, _, _, h2⟩ | ⟨zb, zo, zc, hez, _, _, hzc⟩
                  · rw [h2] at hz; simp at hz
                  obtain ⟨rfl, rfl⟩ : an = some ⟨zb, zo, none⟩ ∧ cn = zc := by simpa using hez
                  obtain ⟨sx, p1, p2, p3, p4, hSx⟩ := hdc k x hx
                  obtain ⟨sy, q1, q2, q3, q4, hSy⟩ := hec j y hy
                  have r1 := hzc k j hz
                  have HSX := Lib.hid hSx
                  have HSY := Lib.hid hSy
                  obtain ⟨ax, cx, rfl⟩ := hSx.len
                  obtain ⟨ay, cy, rfl⟩ := hSy.len
                  have HM1 := Lib.hid (fun w h hn => HMAP.out x (.slice ax x.pins.length cx) w (List.mem_of_getElem? hx) h hn)
                  have HN2 := Lib.hid (fun w h => HNRM.out y (.slice ay y.pins.length cy) w (List.mem_of_getElem? hy) h)
                  have HC := Lib.hid (fun s1 s2 w h h' => compareDevices_any x.kind x.wd x.len y.kind y.wd y.len s1 s2 (normz x.kind (x.pins.map (nmOf names))) (normz y.kind y.pins) w h h')
                  have hAT := HAT.out k j x y hx hz hy
                  dsimp only [isoD] at hAT
                  have d1' := cell_by' hb p1
                  have d2' := cell_by' hb p2
                  have d3' := cell_by' hb p3
                  have d4' := cell_by' hb p4
                  have i1 : (0 : Int) ≤ (k : Int) := by omega
                  have i2 : (k : Int) < (ds.length : Int) := by omega
                  have i2' : (k : Int) < (zs.length : Int) := by omega
                  have i3 : (0 : Int) ≤ (j : Int) := by omega
                  have i4 : (j : Int) < (ds'.length : Int) := by omega
                  generalize normz x.kind (x.pins.map (nmOf names)) = nx at *
                  generalize normz y.kind y.pins = ny at *
                  generalize devcmp x.kind y.kind nx ny x.wd y.wd x.len y.len = cv at *
                  have HR1 := Lib.hid q1
                  have HR2 := Lib.hid q2
                  have HR3 := Lib.hid q3
                  have HR4 := Lib.hid q4
                  have HR5 := Lib.hid r1
                  clear hx hz hy hzl he he' hez hdc hec hzc hSx hSy p1 p2 p3 p4 q1 q2 q3 q4 r1
                  obtain ⟨wo, hwo⟩ : ∃ x : World, x = wr := ⟨_, rfl⟩
                  subst hwo
                  obtain ⟨Dp, hDp⟩ : ∃ D, wo.heap.size = D := ⟨_, rfl⟩
                  cases hcv : (cv == 0) with
                  | true =>
                    have hcv' : (cv != 0) = false := by simpa using hcv
                    have hA : devAt ds ds' (names, zs) k = true := by rw [hAT]; simpa using hcv
                    have HA := Lib.hid hA
                    clear hAT hA
                    go_upto_region 15 with fail
                    obtain ⟨wA, hwA⟩ : ∃ wA, wA = wo.alloc (.cells #[.int .i64 x.kind, .slice ax x.pins.length cx, .int .i64 x.wd, .int .i64 x.len] 62) := ⟨_, rfl⟩
                    have hal : Below wo.heap.size wo wA := by rw [hwA]; exact (Below.refl _ wo).alloc (Nat.le_refl _) _
                    have kD : Blk wA Dp #[.int .i64 x.kind, .slice ax x.pins.length cx, .int .i64 x.wd, .int .i64 x.len] 62 := by rw [hwA]; exact Blk.new _ hDp.symm
                    rw [← hwA]
                    (try rw [hDp])
                    replace kA := Blk.by hal kA
                    replace kB := Blk.by hal kB
                    replace kM := Blk.by hal kM
                    replace hb := below_on hal hb
                    clear hal hwA hDp lA lB lM qA d1' d2' d3' d4'
                    have qB := kB.cell
                    have qM := kM.cell
                    have qD := kD.cell
                    have g1 := cell_by' hb HR1.out
                    have g2 := cell_by' hb HR2.out
                    have g3 := cell_by' hb HR3.out
                    have g4 := cell_by' hb HR4.out
                    have u1 := cell_by' hb HR5.out
                    go_wp2_with fail
                    go_region_held3 (fun w' => (Blk w' (w.heap.size + 1) #[.int .i64 (n : Int), .slice (some ⟨yb, yo, none⟩) ds'.length d1, .slice b2 ps'.length d2] 35 ∧ ∀ o, w'.cell? ⟨w.heap.size + 1, o, none⟩ = (#[.int .i64 (n : Int), .slice (some ⟨yb, yo, none⟩) ds'.length d1, .slice b2 ps'.length d2] : Array Value)[o]?) ∧ (Blk w' (w.heap.size + 1 + 1) #[.slice am names.length cm, .slice (some ⟨zb, zo, none⟩) zs.length cn] 29 ∧ ∀ o, w'.cell? ⟨w.heap.size + 1 + 1, o, none⟩ = (#[.slice am names.length cm, .slice (some ⟨zb, zo, none⟩) zs.length cn] : Array Value)[o]?) ∧ (Blk w' Dp #[.int .i64 x.kind, .slice ax x.pins.length cx, .int .i64 x.wd, .int .i64 x.len] 62 ∧ ∀ o, w'.cell? ⟨Dp, o, none⟩ = (#[.int .i64 x.kind, .slice ax x.pins.length cx, .int .i64 x.wd, .int .i64 x.len] : Array Value)[o]?) ∧ (w'.cell? ⟨yb, yo + j * 4, none⟩ = some (.int .i64 y.kind) ∧ w'.cell? ⟨yb, yo + j * 4 + 1, none⟩ = some (.slice ay y.pins.length cy) ∧ w'.cell? ⟨yb, yo + j * 4 + 2, none⟩ = some (.int .i64 y.wd) ∧ w'.cell? ⟨yb, yo + j * 4 + 3, none⟩ = some (.int .i64 y.len)) ∧ w'.cell? ⟨zb, zo + k, none⟩ = some (.int .i64 (j : Int)) ∧ Below w.heap.size w w')
                      (first | exact ⟨(kB).both, (kM).both, (kD).both, ⟨g1, g2, g3, g4⟩, u1, hb.drew⟩ | exact ⟨(Blk.by hb1 (kB)).both, (Blk.by hb1 (kM)).both, (Blk.by hb1 (kD)).both, ⟨cell_by' hb1 (g1), cell_by' hb1 (g2), cell_by' hb1 (g3), cell_by' hb1 (g4)⟩, cell_by' hb1 (u1), below_on hb1 (hb.drew)⟩ | exact ⟨(Blk.by hb2 (Blk.by hb1 (kB))).both, (Blk.by hb2 (Blk.by hb1 (kM))).both, (Blk.by hb2 (Blk.by hb1 (kD))).both, ⟨cell_by' hb2 (cell_by' hb1 (g1)), cell_by' hb2 (cell_by' hb1 (g2)), cell_by' hb2 (cell_by' hb1 (g3)), cell_by' hb2 (cell_by' hb1 (g4))⟩, cell_by' hb2 (cell_by' hb1 (u1)), below_on hb2 (below_on hb1 (hb.drew))⟩ | exact ⟨(Blk.by hb3 (Blk.by hb2 (Blk.by hb1 (kB)))).both, (Blk.by hb3 (Blk.by hb2 (Blk.by hb1 (kM)))).both, (Blk.by hb3 (Blk.by hb2 (Blk.by hb1 (kD)))).both, ⟨cell_by' hb3 (cell_by' hb2 (cell_by' hb1 (g1))), cell_by' hb3 (cell_by' hb2 (cell_by' hb1 (g2))), cell_by' hb3 (cell_by' hb2 (cell_by' hb1 (g3))), cell_by' hb3 (cell_by' hb2 (cell_by' hb1 (g4)))⟩, cell_by' hb3 (cell_by' hb2 (cell_by' hb1 (u1))), below_on hb3 (below_on hb2 (below_on hb1 (hb.drew)))⟩)
                      (first | (go_at_call 67; refine (HM1.out _ (HSX.out.by hb.drew) (HS.out.by hb.drew)).mono ?_; rintro e w1 ⟨v1, rfl, hO1, hb1⟩; have HO1 := Lib.hid hO1; obtain ⟨o1, c1', rfl⟩ := hO1.len; clear hO1) | (go_at_call 63; refine (HN2.out _ ((HSY.out.by hb.drew).by hb1)).mono ?_; rintro e w2 ⟨v2, rfl, hO2, hb2⟩; have HO2 := Lib.hid hO2.sl; obtain ⟨o2, c2', rfl⟩ := hO2.len; clear hO2) | (go_at_call 62; refine (HC.out _ _ _ (HO1.out.by hb2) HO2.out).mono ?_; rintro e w3 ⟨rfl, hb3⟩))
                    replace kA := Blk.by hb3 (Blk.by hb2 (Blk.by hb1 kA.drew))
                    replace kB := Blk.by hb3 (Blk.by hb2 (Blk.by hb1 kB.drew))
                    replace kM := Blk.by hb3 (Blk.by hb2 (Blk.by hb1 kM.drew))
                    replace hb := below_on hb3 (below_on hb2 (below_on hb1 hb.drew))
                    clear g1 g2 g3 g4 u1 hb1 hb2 hb3 qB qM qD kD
                    go_wp2
                    refine ⟨⟨k + 1, by omega, by go_num, Lib.hid (fun i hi => ?_), kA, kB, kM, hb⟩, by simp [intOf]; omega⟩
                    by_cases ei : i = k
                    · subst ei; exact HA.out
                    · exact HI.out i (by omega)
                  | false =>
                    have hcv' : (cv != 0) = true := by simpa using hcv
                    have hA : devAt ds ds' (names, zs) k = false := by rw [hAT]; simpa using hcv
                    have hr := Lib.hid (HRR.out.trans (HAN.out k hlt hA))
                    clear hAT hA
                    go_upto_region 15 with fail
                    obtain ⟨wA, hwA⟩ : ∃ wA, wA = wo.alloc (.cells #[.int .i64 x.kind, .slice ax x.pins.length cx, .int .i64 x.wd, .int .i64 x.len] 62) := ⟨_, rfl⟩
                    have hal : Below wo.heap.size wo wA := by rw [hwA]; exact (Below.refl _ wo).alloc (Nat.le_refl _) _
                    have kD : Blk wA Dp #[.int .i64 x.kind, .slice ax x.pins.length cx, .int .i64 x.wd, .int .i64 x.len] 62 := by rw [hwA]; exact Blk.new _ hDp.symm
                    rw [← hwA]
                    (try rw [hDp])
                    replace kA := Blk.by hal kA
                    replace kB := Blk.by hal kB
                    replace kM := Blk.by hal kM
                    replace hb := below_on hal hb
                    clear hal hwA hDp lA lB lM qA d1' d2' d3' d4'
                    have qB := kB.cell
                    have qM := kM.cell
                    have qD := kD.cell
                    have g1 := cell_by' hb HR1.out
                    have g2 := cell_by' hb HR2.out
                    have g3 := cell_by' hb HR3.out
                    have g4 := cell_by' hb HR4.out
                    have u1 := cell_by' hb HR5.out
                    go_wp2_with fail
                    go_region_held3 (fun w' => (Blk w' (w.heap.size + 1) #[.int .i64 (n : Int), .slice (some ⟨yb, yo, none⟩) ds'.length d1, .slice b2 ps'.length d2] 35 ∧ ∀ o, w'.cell? ⟨w.heap.size + 1, o, none⟩ = (#[.int .i64 (n : Int), .slice (some ⟨yb, yo, none⟩) ds'.length d1, .slice b2 ps'.length d2] : Array Value)[o]?) ∧ (Blk w' (w.heap.size + 1 + 1) #[.slice am names.length cm, .slice (some ⟨zb, zo, none⟩) zs.length cn] 29 ∧ ∀ o, w'.cell? ⟨w.heap.size + 1 + 1, o, none⟩ = (#[.slice am names.length cm, .slice (some ⟨zb, zo, none⟩) zs.length cn] : Array Value)[o]?) ∧ (Blk w' Dp #[.int .i64 x.kind, .slice ax x.pins.length cx, .int .i64 x.wd, .int .i64 x.len] 62 ∧ ∀ o, w'.cell? ⟨Dp, o, none⟩ = (#[.int .i64 x.kind, .slice ax x.pins.length cx, .int .i64 x.wd, .int .i64 x.len] : Array Value)[o]?) ∧ (w'.cell? ⟨yb, yo + j * 4, none⟩ = some (.int .i64 y.kind) ∧ w'.cell? ⟨yb, yo + j * 4 + 1, none⟩ = some (.slice ay y.pins.length cy) ∧ w'.cell? ⟨yb, yo + j * 4 + 2, none⟩ = some (.int .i64 y.wd) ∧ w'.cell? ⟨yb, yo + j * 4 + 3, none⟩ = some (.int .i64 y.len)) ∧ w'.cell? ⟨zb, zo + k, none⟩ = some (.int .i64 (j : Int)) ∧ Below w.heap.size w w')
                      (first | exact ⟨(kB).both, (kM).both, (kD).both, ⟨g1, g2, g3, g4⟩, u1, hb.drew⟩ | exact ⟨(Blk.by hb1 (kB)).both, (Blk.by hb1 (kM)).both, (Blk.by hb1 (kD)).both, ⟨cell_by' hb1 (g1), cell_by' hb1 (g2), cell_by' hb1 (g3), cell_by' hb1 (g4)⟩, cell_by' hb1 (u1), below_on hb1 (hb.drew)⟩ | exact ⟨(Blk.by hb2 (Blk.by hb1 (kB))).both, (Blk.by hb2 (Blk.by hb1 (kM))).both, (Blk.by hb2 (Blk.by hb1 (kD))).both, ⟨cell_by' hb2 (cell_by' hb1 (g1)), cell_by' hb2 (cell_by' hb1 (g2)), cell_by' hb2 (cell_by' hb1 (g3)), cell_by' hb2 (cell_by' hb1 (g4))⟩, cell_by' hb2 (cell_by' hb1 (u1)), below_on hb2 (below_on hb1 (hb.drew))⟩ | exact ⟨(Blk.by hb3 (Blk.by hb2 (Blk.by hb1 (kB)))).both, (Blk.by hb3 (Blk.by hb2 (Blk.by hb1 (kM)))).both, (Blk.by hb3 (Blk.by hb2 (Blk.by hb1 (kD)))).both, ⟨cell_by' hb3 (cell_by' hb2 (cell_by' hb1 (g1))), cell_by' hb3 (cell_by' hb2 (cell_by' hb1 (g2))), cell_by' hb3 (cell_by' hb2 (cell_by' hb1 (g3))), cell_by' hb3 (cell_by' hb2 (cell_by' hb1 (g4)))⟩, cell_by' hb3 (cell_by' hb2 (cell_by' hb1 (u1))), below_on hb3 (below_on hb2 (below_on hb1 (hb.drew)))⟩)
                      (first | (go_at_call 67; refine (HM1.out _ (HSX.out.by hb.drew) (HS.out.by hb.drew)).mono ?_; rintro e w1 ⟨v1, rfl, hO1, hb1⟩; have HO1 := Lib.hid hO1; obtain ⟨o1, c1', rfl⟩ := hO1.len; clear hO1) | (go_at_call 63; refine (HN2.out _ ((HSY.out.by hb.drew).by hb1)).mono ?_; rintro e w2 ⟨v2, rfl, hO2, hb2⟩; have HO2 := Lib.hid hO2.sl; obtain ⟨o2, c2', rfl⟩ := hO2.len; clear hO2) | (go_at_call 62; refine (HC.out _ _ _ (HO1.out.by hb2) HO2.out).mono ?_; rintro e w3 ⟨rfl, hb3⟩))
                    replace hb := below_on hb3 (below_on hb2 (below_on hb1 hb.drew))
                    go_wp2
                    go_ret
                    exact ⟨ret_bool hr.out.symm, hb⟩
                · obtain rfl : k = ds.length := by omega
                  have hr := Lib.hid (HRR.out.trans (HAY.out (fun j hj => HI.out j hj)))
                  go_wp2
                  go_ret
                  exact ⟨ret_bool hr.out.symm, blwT⟩
end Go.Proofs.YtifbffianbgeaaaGreat
namespace Go.Proofs.YtifbffianbgeaaaGreat.fnPermuted
open Go.RowKit Go.Proofs.YtifbffianbgeaaaGreat
set_option linter.unusedVariables false
set_option linter.unusedSimpArgs false
theorem ownI_ne {w : World} {lo : Nat} {v : Value} {zs : List Int} (h : OwnI w lo v zs) (hne : zs ≠ []) : ∃ g cap, ∃ cs : Array Value, v = .slice (some ⟨g, 0, none⟩) zs.length cap ∧ lo ≤ g ∧ zs.length ≤ cap ∧ cap ≤ maxLen ∧ Blk w g cs 2 ∧ ∀ (i : Nat) (x : Int), zs[i]? = some x → cs[i]? = some (Value.int .i64 x) := by
  rcases h with ⟨_, _, _, h⟩ | h
  · exact absurd h hne
  · exact h
theorem set_selfD {l : List Dv} {k : Nat} {d : Dv} (h : l[k]? = some d) : l.set k d = l := by
  obtain ⟨hk, rfl⟩ := List.getElem?_eq_some_iff.1 h
  exact List.set_getElem_self hk
theorem OwnPs.excP {E : Nat → Prop} {w w' : World} {lo hi : Nat} {sv : Value} {ps : List Pt} (h : Exc E w w') (hO : OwnPs w lo hi sv ps) (hE : ∀ k, lo ≤ k → k < hi → ¬ E k) : OwnPs w' lo hi sv ps := by
  rcases hO with e | ⟨g, cap, cs, h1, h2, h3, h4, h5, h6⟩
  · exact .inl e
  · exact .inr ⟨g, cap, cs, h1, h2, h3, h4, h.blk h5 (hE g h2.1 h2.2), h6⟩
theorem own_swap {w : World} {g cap : Nat} {cs : Array Value} {zs : List Int} {j : Nat} {p q : Int} (hB : Blk w g cs 2) (hl : zs.length ≤ cap) (hm : cap ≤ maxLen) (hc : ∀ (i : Nat) x, zs[i]? = some x → cs[i]? = some (Value.int .i64 x)) (hj : j + 1 < zs.length) :
    OwnR ((w.setCell ⟨g, j, none⟩ (.int .i64 q)).setCell ⟨g, j + 1, none⟩ (.int .i64 p)) g (g + 1) (.slice (some ⟨g, 0, none⟩) zs.length cap) ((zs.set j q).set (j + 1) p) := by
  refine .inr ⟨g, cap, _, by rw [List.length_set, List.length_set], Nat.le_refl _, by omega, by rw [List.length_set, List.length_set]; exact hl, hm, (hB.set j _).set (j + 1) _, fun i x hx => ?_⟩
  have h0 := hc j _ (List.getElem?_eq_getElem (by omega))
  have h1 := hc (j + 1) _ (List.getElem?_eq_getElem hj)
  have z0 := (Array.getElem?_eq_some_iff.1 h0).1
  have z1 := (Array.getElem?_eq_some_iff.1 h1).1
  rw [List.getElem?_set, List.length_set, List.getElem?_set] at hx
  simp only [Array.getElem?_setIfInBounds, Array.size_setIfInBounds]
  by_cases e1 : j + 1 = i
  · rw [if_pos e1, if_pos hj] at hx
    rw [if_pos e1, if_pos z1]
    rw [Option.some.inj hx]
  · rw [if_neg e1] at hx ⊢
    by_cases e2 : j = i
    · rw [if_pos e2, if_pos (by omega)] at hx
      rw [if_pos e2, if_pos z0]
      rw [Option.some.inj hx]
    · rw [if_neg e2] at hx ⊢
      exact hc i x hx
set_option maxRecDepth 100000 in
set_option maxHeartbeats 16000000 in
theorem walk (v0 : Value) (w : World) (n : Nat) (hB : Bytes w v0 n) :
    Calls Tryz.prog 7 #[v0] w fun e w' => e = .returned (.bool true) ∧ Below w.heap.size w w' := by
  have HB := Lib.hid hB
  have HBG := Lib.hid (fun w h => big_any v0 n w h)
  by_cases hn : 4096 < n
  · rw [decide_eq_true hn] at HBG
    clear hB hn
    go_enter Tryz.func7, Tryz.ntmps7
    go_wp2_with fail
    refine (HBG.out _ HB.out).mono ?_
    rintro e w1 ⟨rfl, rfl⟩
    go_wp2
    go_ret
    exact ⟨rfl, Below.refl _ _⟩
  · rw [decide_eq_false hn] at HBG
    have hn' : n ≤ 4096 := by omega
    have HRO := Lib.hid (fun w h => roll_any v0 n 3001 w h)
    have HDR := Lib.hid (fun w h => drawAp_own v0 n w h hn')
    have HBE := Lib.hid (fun W0 g m hm hm' w h => below_any W0 g v0 n m w h hm hm')
    clear hB hn
    go_enter Tryz.func7, Tryz.ntmps7
    go_wp2_with fail
    refine (HBG.out _ HB.out).mono ?_
    rintro e w1 ⟨rfl, rfl⟩
    go_wp2_with fail
    refine (HRO.out _ HB.out).mono ?_
    rintro e w2 ⟨rfl, ⟨sd, kd⟩, hb2⟩
    have HD2 := Lib.hid (dice_of_roll (Below.refl _ _) HB.out hn' kd hb2)
    have HB2 := Lib.hid (HB.out.by hb2)
    have hgM := kd.lt
    clear kd
    go_wp2_with fail
    refine (HDR.out _ HB2.out).mono ?_
    rintro e w3 ⟨v, u, x, z, rfl, HNO, HS, HMO, ⟨hz1, hz2⟩, hb3⟩
    have HD3 := Lib.hid (HD2.out.by hb3)
    have hb3w := below_on hb3 hb2
    have hM3 := hb3.size
    clear hb3 hb2 HB2 HD2
    obtain ⟨a1, c1, a2, c2, rfl⟩ := HNO.out.nl.sized
    obtain ⟨b1, d1, b2, d2, rfl⟩ := HMO.out.ma.sized
    have hok : ∀ p ∈ x.ps, p.ok := HS.out.2.2.2.2
    have hfit : Fits x.nets := HS.out.fits
    have HIA := Lib.hid (fun v u w h hm => implApply_any x z v u w h hm hok hfit (by omega) (by omega))
    have HIF := Lib.hid (fun hx h1 h2 => inv_facts (x := x) (z := z) hx h1 h2 hok)
    have HOK := Lib.hid (And.intro hok hfit)
    have hds10 := HS.out.2.1
    obtain ⟨N, hN⟩ : ∃ N, x.nets = N := ⟨_, rfl⟩
    obtain ⟨L1, hL⟩ : ∃ L, x.ds.length = L := ⟨_, rfl⟩
    obtain ⟨L2, hL2⟩ : ∃ L, x.ps.length = L := ⟨_, rfl⟩
    obtain ⟨p, hp⟩ : ∃ p, z.1.length = p := ⟨_, rfl⟩
    obtain ⟨q, hq⟩ : ∃ q, z.2.length = q := ⟨_, rfl⟩
    have HEQ := Lib.hid (And.intro hN (And.intro hL (And.intro hL2 (And.intro hp hq))))
    rw [hN, hL, hL2] at HNO ⊢
    rw [hL] at hds10
    rw [hp, hq] at HMO ⊢
    have hpq : p ≤ 300 ∧ q ≤ 300 := by omega
    clear hN hL hL2 hp hq hok hfit hz1 hz2
    have hal : Below w3.heap.size w3 ((w3.alloc (.cells #[.int .i64 N, .slice a1 L1 c1, .slice a2 L2 c2] 35)).alloc (.cells #[.slice b1 p d1, .slice b2 q d2] 29)) := ((Below.refl _ w3).alloc (Nat.le_refl _) _).alloc (by simp) _
    have kT4 : Blk ((w3.alloc (.cells #[.int .i64 N, .slice a1 L1 c1, .slice a2 L2 c2] 35)).alloc (.cells #[.slice b1 p d1, .slice b2 q d2] 29)) w3.heap.size #[.int .i64 N, .slice a1 L1 c1, .slice a2 L2 c2] 35 := (Blk.new _ rfl).past _
    have kU4 : Blk ((w3.alloc (.cells #[.int .i64 N, .slice a1 L1 c1, .slice a2 L2 c2] 35)).alloc (.cells #[.slice b1 p d1, .slice b2 q d2] 29)) (w3.heap.size + 1) #[.slice b1 p d1, .slice b2 q d2] 29 := Blk.new _ (by simp)
    have hs4 : ((w3.alloc (.cells #[.int .i64 N, .slice a1 L1 c1, .slice a2 L2 c2] 35)).alloc (.cells #[.slice b1 p d1, .slice b2 q d2] 29)).heap.size = w3.heap.size + 2 := by simp
    have HD4 := Lib.hid (HD3.out.by hal)
    have hb4 := below_on hal hb3w
    have hbA := Lib.hid hal
    have HS4 := Lib.hid hs4
    clear hal hb3w HD3 hs4
    have qT := kT4.cell
    have lT := kT4.lt
    have qU := kU4.cell
    have lU := kU4.lt
    go_wp2_with fail
    generalize ((w3.alloc (.cells #[.int .i64 N, .slice a1 L1 c1, .slice a2 L2 c2] 35)).alloc (.cells #[.slice b1 p d1, .slice b2 q d2] 29)) = w4 at *
    refine (HIA.out _ _ _ (HNO.out.by hbA.out).nl (HMO.out.by hbA.out).ma).mono ?_
    rintro e w5 ⟨v5, rfl, hO5, hb5⟩
    obtain ⟨a3, c3, a4, c4, rfl⟩ := hO5.nl.sized
    have HY5 := Lib.hid hO5
    have hY0 := hO5
    clear hO5
    by_cases hc : nlB x = true ∧ permB z.1 x.nets = true ∧ permB z.2 (x.ds.length : Int) = true
    · obtain ⟨f1, _, _, _, _, _, _, _, f9, f10⟩ := HIF.out hc.1 hc.2.1 hc.2.2
      have I0 := ap_iso hc.1 hc.2.1 hc.2.2
      have V0 := ap_valid hc.1 hc.2.1 hc.2.2
      rw [← ap_is hc.1 hc.2.1 hc.2.2] at I0 V0
      have HX := Lib.hid hc.1
      have HI0 := Lib.hid I0
      have HV0 := Lib.hid V0
      have HO0 := Lib.hid (And.intro f9 f10)
      rw [f1]
      generalize apR x z = Y at *
      obtain ⟨L, hL⟩ : ∃ L, Y.ds.length = L := ⟨_, rfl⟩
      obtain ⟨L4, hL4⟩ : ∃ L, Y.ps.length = L := ⟨_, rfl⟩
      have hNY : Y.nets = N := I0.nets.trans HEQ.out.1
      have HLL := Lib.hid (show L = L1 from hL.symm.trans (I0.len.trans HEQ.out.2.1))
      rw [hNY, hL, hL4] at HY5 ⊢
      have HEY := Lib.hid (And.intro hNY (And.intro hL hL4))
      clear hc f1 f9 f10 I0 V0 HIA HIF HDR HBG HB hNY hL hL4 hY0
      have hal : Below w5.heap.size w5 (w5.alloc (.cells #[.int .i64 N, .slice a3 L c3, .slice a4 L4 c4] 35)) := (Below.refl _ w5).alloc (Nat.le_refl _) _
      have kX6 : Blk (w5.alloc (.cells #[.int .i64 N, .slice a3 L c3, .slice a4 L4 c4] 35)) w5.heap.size #[.int .i64 N, .slice a3 L c3, .slice a4 L4 c4] 35 := Blk.new _ rfl
      have kT6 := Blk.by hal (Blk.by hb5 kT4)
      have kU6 := Blk.by hal (Blk.by hb5 kU4)
      have HD6 := Lib.hid ((HD4.out.by hb5).by hal)
      have HY6 := Lib.hid (HY5.out.by hal)
      have hb6 : Below w.heap.size w (w5.alloc (.cells #[.int .i64 N, .slice a3 L c3, .slice a4 L4 c4] 35)) := below_on hal (below_on hb5 hb4)
      have HA6 := Lib.hid (below_on hal (below_on hb5 hbA.out))
      have h45 := hb5.size
      have hs6 : (w5.alloc (.cells #[.int .i64 N, .slice a3 L c3, .slice a4 L4 c4] 35)).heap.size = w5.heap.size + 1 := by simp
      have HS6 := Lib.hid hs6
      clear qT lT qU lU hb5 kT4 kU4 HD4 HY5 hb4 hal hbA hs6
      have qT := kT6.cell
      have lT := kT6.lt
      have qU := kU6.cell
      have lU := kU6.lt
      have qX := kX6.cell
      have lX := kX6.lt
      by_cases h10 : N ≤ 10
      · have i1 : ¬ (10 : Int) < N := by omega
        have i2 : decide ((10 : Int) < N) = false := decide_eq_false i1
        have i3 : decide (N > 10) = false := decide_eq_false i1
        have HII := Lib.hid (fun v u t w a b c => implIso_any x Y z v u t w a b c HOK.out.1 HO0.out.1 HOK.out.2 HO0.out.2 (by have := HEQ.out.2.2.2; omega) (by have := HEQ.out.2.2.2; omega))
        have hisoB : isoB x Y z = true := iso_isoB HI0.out HX.out HV0.out
        rw [hisoB] at HII
        have HN6 := Lib.hid (HNO.out.by HA6.out).nl
        have HM6 := Lib.hid (HMO.out.by HA6.out).ma
        have HYN6 := Lib.hid HY6.out.nl
        clear hisoB
        go_wp2_with fail
        generalize w5.alloc (.cells #[.int .i64 N, .slice a3 L c3, .slice a4 L4 c4] 35) = w6 at *
        refine (HII.out _ _ _ _ HN6.out HYN6.out HM6.out).mono ?_
        rintro e w7 ⟨rfl, hb7⟩
        have kT7 := Blk.by hb7 kT6
        have kX7 := Blk.by hb7 kX6
        have HD7 := Lib.hid (HD6.out.by hb7)
        have HY7 := HY6.out.by hb7
        have HA7 := Lib.hid (below_on hb7 HA6.out)
        have hb7w := below_on hb7 hb6
        have h67 := hb7.size
        have hs6 := HS6.out
        have hs4 := HS4.out
        obtain ⟨s1, s2, P, e0, hDX, hPX, hPr⟩ := HY7
        simp only [Value.agg.injEq, Array.mk.injEq, List.cons.injEq, and_true] at e0
        obtain ⟨e01, e02, e03⟩ := e0
        subst e02 e03
        clear e01
        have HDX := Lib.hid hDX
        have HPX := Lib.hid hPX
        have hL10 : L ≤ 10 := by rw [HLL.out]; exact hds10
        have gT : w3.heap.size + 1 < w4.heap.size := by omega
        have gX : w5.heap.size < w7.heap.size := by omega
        have gg : w.heap.size < w3.heap.size := by omega
        clear qT lT qU lU qX lX kT6 kU6 kX6 HD6 HY6 HA6 hb6 hb7 HN6 HM6 HYN6 HII hs6 hs4 hDX hPX
        have qX := kX7.cell
        have lX := kX7.lt
        go_wp2
        clear qX lX
        go_loopw [8, 9, 10, 11] (fun i _ _ _ wr => ∃ (k : Nat) (y : Nl) (hi : Nat), k ≤ L ∧ i = .int .i64 k ∧ Hid (NlIso x y z.1 z.2 ∧ nlB y = true ∧ y.nets = N ∧ y.ds.length = L ∧ y.ps = Y.ps) ∧ Hid (OwnDs wr w4.heap.size hi (.slice a3 L c3) y.ds) ∧ hi ≤ wr.heap.size ∧ Hid (Dice w w.heap.size v0 n wr) ∧ Hid (Exc (fun b => b = w.heap.size ∨ (w4.heap.size ≤ b ∧ b < w5.heap.size ∧ b ≠ P)) w7 wr)) (fun i _ _ _ _ => L - (intOf i).toNat)
        case atStart => exact ⟨0, Y, w5.heap.size, Nat.zero_le _, rfl, Lib.hid ⟨HI0.out, HV0.out, HEY.out.1, HEY.out.2.1, rfl⟩, Lib.hid (by have := HDX.out.ods; rw [HEY.out.2.1] at *; exact this), by omega, HD7, Lib.hid (Exc.refl _ _)⟩
        case round =>
          obtain ⟨k, y, hi, hk, rfl, HYF, HOD, hhi, HDI, HE⟩ := hrel
          have hX := HE.out
          have kT := hX.blk kT7 (by omega)
          have kX := hX.blk kX7 (by omega)
          have hszX := hX.size
          by_cases hlt : k < L
          · obtain ⟨hI, hv, hyn, hyl, hyp⟩ := HYF.out
            obtain ⟨d, hd⟩ : ∃ d, y.ds[k]? = some d := ⟨y.ds[k]'(by omega), List.getElem?_eq_getElem _⟩
            have h2 := dvB_Two ((nlB_facts hv).2.2.2.1 d (List.mem_of_getElem? hd))
            rcases HDX.out with ⟨_, _, _, h0⟩ | ⟨g3, cap, _, _, e3, ⟨hg3, hgP⟩, _⟩
            · have h9 := HEY.out.2.1
              rw [h0] at h9
              have h9 : 0 = L := h9
              omega
            injection e3 with e3a e3b e3c
            clear e3b
            subst e3a e3c
            rcases HOD.out with ⟨_, _, _, h0⟩ | ⟨g', cap', cs3, f3, e4, _, _, _, kG, h6, _⟩
            · rw [h0] at hyl
              have h9 : 0 = L := hyl
              omega
            injection e4 with e4a e4b e4c
            clear e4b e4c
            injection e4a with e4a
            injection e4a with e4a
            subst e4a
            obtain ⟨⟨pv, ⟨x0, x1, x2, x3⟩, hOR⟩, hf1, hf2, hf3⟩ := h6 k d hd
            have HD := Lib.hid hd
            have cG := x1
            have c1 := (kG.cell _).trans x1
            have lg3 := kG.lt
            have i1 : (0 : Int) ≤ (k : Int) := by omega
            have i2 : (k : Int) < (L : Int) := by omega
            have qX0 := kX.cell
            have lX0 := kX.lt
            have gG := hg3
            clear hI hv hyn hyl hyp hd h6 x0 x1 x2 x3 hX hg3
            rcases h2 with ⟨hk2, pa, qa, ep⟩ | ⟨hk2, ga, pa, qa, ep⟩
            · clear hk2
              have hsd : swpD d = ⟨d.kind, ([pa, qa].set 0 qa).set (1) pa, d.wd, d.len⟩ := by
                unfold swpD
                rw [ep]
                rfl
              rw [ep] at hOR
              have HPN := Lib.hid hOR.sl
              have HSD := Lib.hid hsd
              have HEP := Lib.hid ep
              obtain ⟨ax, cx, rfl⟩ : ∃ a c, pv = .slice a 2 c := by
                obtain ⟨a, c, e⟩ := hOR.sl.len
                exact ⟨a, c, e⟩
              clear hsd ep hOR
              go_upto_region 15 with (refine list_clone (by rfl) _ _ (by rfl) wr.heap.size (by rfl) (.slice ax 2 cx) [pa, qa] (by rfl) (HPN.out.by ((Below.refl _ wr).alloc (Nat.le_refl _) _)) (by simp) wr.heap.size (by simp) ?_; intro v9 w9 hO9 hb9; obtain ⟨p9, cap9, cs9, rfl, hlo9, hl9, hm9, hB9, hc9⟩ := ownI_ne hO9 (by simp); have HC9 := Lib.hid hc9; have HB9 := Lib.hid hB9; have HM9 := Lib.hid (And.intro hl9 hm9); have hal9 : Below wr.heap.size wr w9 := Below.trans ((Below.refl _ wr).alloc (Nat.le_refl _) _) (hb9.mono (by simp)); have HAL9 := Lib.hid hal9; clear hO9 hc9 hB9 hl9 hm9 hb9 hal9)
              have HDI9 := Lib.hid (HDI.out.by HAL9.out)
              go_wp2_with fail
              refine (HBE.out w w.heap.size 2 (by decide) (by decide) _ HDI9.out).mono ?_
              rintro e w10 ⟨rr, rfl, hr0, hr1, HD10, ho10⟩
              have h9s := HAL9.out.size
              have hwn : Within w.heap.size (w.heap.size + 1) w9 w10 := ⟨ho10.os, ho10.tape, ho10.output, Nat.le_of_eq ho10.size.symm, fun b _ hne => ho10.block b (by omega)⟩
              have h10s : w10.heap.size = w9.heap.size := ho10.size
              have kP := ho10.blk HB9.out (by omega)
              have kX10 := ho10.blk (Blk.by HAL9.out kX) (by omega)
              have kG10 := ho10.blk (Blk.by HAL9.out kG) (by omega)
              have HO10 := Lib.hid ((HOD.out.by HAL9.out).past hwn (.inr (by omega)))
              have HE10 := Lib.hid ((HE.out.on (Exc.ofBelow HAL9.out)).thn (Exc.ofWithin (E := fun b => b = w.heap.size) hwn (fun b h1 h2 => by show b = w.heap.size; omega)) (fun b _ h => .inl h))
              have HDD := Lib.hid HD10
              have lP := kP.lt
              have H10 := Lib.hid (And.intro hwn h10s)
              have e0 := (kP.cell 0).trans (HC9.out 0 pa rfl)
              have e1 := (kP.cell (1)).trans (HC9.out (1) qa rfl)
              have fP := kP.free
              have qX := kX10.cell
              have lX := kX10.lt
              have qG := (kG10.cell _).trans cG
              have fG := kG10.free (k * 4 + 1)
              have lG := kG10.lt
              have hlt10 : p9 < w10.heap.size := lP
              have hgp : ¬ p9 = g3 := by omega
              have hgp2 : ¬ g3 = p9 := by omega
              have hxp : ¬ p9 = w5.heap.size := by omega
              have hxp2 : ¬ w5.heap.size = p9 := by omega
              have HL := Lib.hid (And.intro hhi (And.intro hlo9 h9s))
              clear hwn HD10 ho10 kX kT HDI HDI9 qX0
              by_cases hr : rr = 0
              · subst hr
                have HR := Lib.hid (own_swap (p := pa) (q := qa) (j := 0) kP HM9.out.1 HM9.out.2 HC9.out (by simp))
                have HOA := Lib.hid ((HO10.out.past (Within.off (g := p9) (o := 0) (.int .i64 qa)) (.inl (by omega))).past (Within.off (g := p9) (o := 1) (.int .i64 pa)) (.inl (by omega)))
                have HF := Lib.hid (OwnDs.newPins HOA.out HD.out (by omega) HR.out)
                clear hr0 hr1
                go_wp2
                refine ⟨⟨k + 1, swpN y k d, p9 + 1, by omega, by go_num, Lib.hid ⟨(swp_fin HYF.out.1 HX.out HYF.out.2.1 HD.out).1, (swp_fin HYF.out.1 HX.out HYF.out.2.1 HD.out).2, HYF.out.2.2.1, by rw [← HYF.out.2.2.2.1]; exact List.length_set, HYF.out.2.2.2.2⟩, Lib.hid ?_, by simp; omega, Lib.hid (((HDD.out.apart (by omega) (by omega)).apart (by omega) (by omega)).apart (by omega) (by omega)), Lib.hid (((HE10.out.set p9 0 _ (fun h => by omega)).set p9 (1) _ (fun h => by omega)).set g3 (k * 4 + 1) _ (fun _ => .inr ⟨by omega, by omega, by omega⟩))⟩, by simp [intOf]; omega⟩
                show OwnDs _ _ _ _ (y.ds.set k (swpD d))
                rw [HSD.out]
                exact HF.out
              · have hr2 : (rr == 0) = false := by simpa using hr
                have HR : Hid (OwnR w10 p9 (p9 + 1) (.slice (some ⟨p9, 0, none⟩) 2 cap9) [pa, qa]) := Lib.hid (.inr ⟨p9, cap9, cs9, rfl, Nat.le_refl _, by omega, HM9.out.1, HM9.out.2, kP, HC9.out⟩)
                have HF := Lib.hid (OwnDs.newPins HO10.out HD.out (by omega) HR.out)
                clear hr hr0 hr1
                go_wp2
                refine ⟨⟨k + 1, y, p9 + 1, by omega, by go_num, HYF, Lib.hid ?_, by simp; omega, Lib.hid (HDD.out.apart (by omega) (by omega)), Lib.hid (HE10.out.set g3 (k * 4 + 1) _ (fun _ => .inr ⟨by omega, by omega, by omega⟩))⟩, by simp [intOf]; omega⟩
                have hF := HF.out
                have hs : y.ds.set k ⟨d.kind, [pa, qa], d.wd, d.len⟩ = y.ds := by
                  rw [← HEP.out]
                  exact set_selfD HD.out
                rw [hs] at hF
                exact hF
            · clear hk2
              have hsd : swpD d = ⟨d.kind, ([ga, pa, qa].set 1 qa).set (2) pa, d.wd, d.len⟩ := by
                unfold swpD
                rw [ep]
                rfl
              rw [ep] at hOR
              have HPN := Lib.hid hOR.sl
              have HSD := Lib.hid hsd
              have HEP := Lib.hid ep
              obtain ⟨ax, cx, rfl⟩ : ∃ a c, pv = .slice a 3 c := by
                obtain ⟨a, c, e⟩ := hOR.sl.len
                exact ⟨a, c, e⟩
              clear hsd ep hOR
              go_upto_region 15 with (refine list_clone (by rfl) _ _ (by rfl) wr.heap.size (by rfl) (.slice ax 3 cx) [ga, pa, qa] (by rfl) (HPN.out.by ((Below.refl _ wr).alloc (Nat.le_refl _) _)) (by simp) wr.heap.size (by simp) ?_; intro v9 w9 hO9 hb9; obtain ⟨p9, cap9, cs9, rfl, hlo9, hl9, hm9, hB9, hc9⟩ := ownI_ne hO9 (by simp); have HC9 := Lib.hid hc9; have HB9 := Lib.hid hB9; have HM9 := Lib.hid (And.intro hl9 hm9); have hal9 : Below wr.heap.size wr w9 := Below.trans ((Below.refl _ wr).alloc (Nat.le_refl _) _) (hb9.mono (by simp)); have HAL9 := Lib.hid hal9; clear hO9 hc9 hB9 hl9 hm9 hb9 hal9)
              have HDI9 := Lib.hid (HDI.out.by HAL9.out)
              go_wp2_with fail
              refine (HBE.out w w.heap.size 2 (by decide) (by decide) _ HDI9.out).mono ?_
              rintro e w10 ⟨rr, rfl, hr0, hr1, HD10, ho10⟩
              have h9s := HAL9.out.size
              have hwn : Within w.heap.size (w.heap.size + 1) w9 w10 := ⟨ho10.os, ho10.tape, ho10.output, Nat.le_of_eq ho10.size.symm, fun b _ hne => ho10.block b (by omega)⟩
              have h10s : w10.heap.size = w9.heap.size := ho10.size
              have kP := ho10.blk HB9.out (by omega)
              have kX10 := ho10.blk (Blk.by HAL9.out kX) (by omega)
              have kG10 := ho10.blk (Blk.by HAL9.out kG) (by omega)
              have HO10 := Lib.hid ((HOD.out.by HAL9.out).past hwn (.inr (by omega)))
              have HE10 := Lib.hid ((HE.out.on (Exc.ofBelow HAL9.out)).thn (Exc.ofWithin (E := fun b => b = w.heap.size) hwn (fun b h1 h2 => by show b = w.heap.size; omega)) (fun b _ h => .inl h))
              have HDD := Lib.hid HD10
              have lP := kP.lt
              have H10 := Lib.hid (And.intro hwn h10s)
              have e0 := (kP.cell 1).trans (HC9.out 1 pa rfl)
              have e1 := (kP.cell (2)).trans (HC9.out (2) qa rfl)
              have fP := kP.free
              have qX := kX10.cell
              have lX := kX10.lt
              have qG := (kG10.cell _).trans cG
              have fG := kG10.free (k * 4 + 1)
              have lG := kG10.lt
              have hlt10 : p9 < w10.heap.size := lP
              have hgp : ¬ p9 = g3 := by omega
              have hgp2 : ¬ g3 = p9 := by omega
              have hxp : ¬ p9 = w5.heap.size := by omega
              have hxp2 : ¬ w5.heap.size = p9 := by omega
              have HL := Lib.hid (And.intro hhi (And.intro hlo9 h9s))
              clear hwn HD10 ho10 kX kT HDI HDI9 qX0
              by_cases hr : rr = 0
              · subst hr
                have HR := Lib.hid (own_swap (p := pa) (q := qa) (j := 1) kP HM9.out.1 HM9.out.2 HC9.out (by simp))
                have HOA := Lib.hid ((HO10.out.past (Within.off (g := p9) (o := 1) (.int .i64 qa)) (.inl (by omega))).past (Within.off (g := p9) (o := 2) (.int .i64 pa)) (.inl (by omega)))
                have HF := Lib.hid (OwnDs.newPins HOA.out HD.out (by omega) HR.out)
                clear hr0 hr1
                go_wp2
                refine ⟨⟨k + 1, swpN y k d, p9 + 1, by omega, by go_num, Lib.hid ⟨(swp_fin HYF.out.1 HX.out HYF.out.2.1 HD.out).1, (swp_fin HYF.out.1 HX.out HYF.out.2.1 HD.out).2, HYF.out.2.2.1, by rw [← HYF.out.2.2.2.1]; exact List.length_set, HYF.out.2.2.2.2⟩, Lib.hid ?_, by simp; omega, Lib.hid (((HDD.out.apart (by omega) (by omega)).apart (by omega) (by omega)).apart (by omega) (by omega)), Lib.hid (((HE10.out.set p9 1 _ (fun h => by omega)).set p9 (2) _ (fun h => by omega)).set g3 (k * 4 + 1) _ (fun _ => .inr ⟨by omega, by omega, by omega⟩))⟩, by simp [intOf]; omega⟩
                show OwnDs _ _ _ _ (y.ds.set k (swpD d))
                rw [HSD.out]
                exact HF.out
              · have hr2 : (rr == 0) = false := by simpa using hr
                have HR : Hid (OwnR w10 p9 (p9 + 1) (.slice (some ⟨p9, 0, none⟩) 3 cap9) [ga, pa, qa]) := Lib.hid (.inr ⟨p9, cap9, cs9, rfl, Nat.le_refl _, by omega, HM9.out.1, HM9.out.2, kP, HC9.out⟩)
                have HF := Lib.hid (OwnDs.newPins HO10.out HD.out (by omega) HR.out)
                clear hr hr0 hr1
                go_wp2
                refine ⟨⟨k + 1, y, p9 + 1, by omega, by go_num, HYF, Lib.hid ?_, by simp; omega, Lib.hid (HDD.out.apart (by omega) (by omega)), Lib.hid (HE10.out.set g3 (k * 4 + 1) _ (fun _ => .inr ⟨by omega, by omega, by omega⟩))⟩, by simp [intOf]; omega⟩
                have hF := HF.out
                have hs : y.ds.set k ⟨d.kind, [ga, pa, qa], d.wd, d.len⟩ = y.ds := by
                  rw [← HEP.out]
                  exact set_selfD HD.out
                rw [hs] at hF
                exact hF
          · have hkL : k = L := by omega
            obtain ⟨hI, hv, hyn, hyl, hyp⟩ := HYF.out
            have hHD := HOD.out.sl
            have HYN := Lib.hid (show NlV wr (.agg #[.int .i64 N, .slice a3 L c3, .slice a4 L4 c4]) y from ⟨.slice a3 L c3, .slice a4 L4 c4, by rw [hyn], hHD, by rw [hyp]; exact (OwnPs.excP hX HPX.out (by intro b hb hb2 hb3; omega)).sl⟩)
            have HE3 : Exc (fun b => b = w.heap.size) w3 wr := (Exc.ofBelow HA7.out).thn hX (fun b hb h => by
              rcases h with h | h
              · exact h
              · omega)
            have HNN := Lib.hid (NlO.excB HE3 HNO.out (fun b h1 h2 h3 => by omega)).nl
            have hsm : x.nets ≤ 10 ∧ x.ds.length ≤ 10 := ⟨by rw [HEQ.out.1]; exact h10, by rw [HEQ.out.2.1]; exact hds10⟩
            have F1 := per_fin hI HX.out hv hsm
            have F2 := per_back hI HX.out hv hsm
            have hyo : ∀ p ∈ y.ps, p.ok := by rw [hyp]; exact HO0.out.1
            have hyf : Fits y.nets := by rw [hyn, ← HEY.out.1]; exact HO0.out.2
            have HC1 := Lib.hid (fun v u w h h' => implCmpNl_any x y v u w h h' HOK.out.1 HOK.out.2 hyo hyf)
            have HC2 := Lib.hid (fun v u w h h' => implCmpNl_any y x v u w h h' hyo hyf HOK.out.1 HOK.out.2)
            have HS1 := Lib.hid (fun v u t w a b c => specIso_any x y (cmpR x y) v u t w a b c HOK.out.1 hyo HOK.out.2 hyf (cmpR_bounds x y).1 (cmpR_bounds x y).2)
            have HS2 := Lib.hid (fun v u t w a b c => specIso_any y x (cmpR y x) v u t w a b c hyo HOK.out.1 hyf HOK.out.2 (cmpR_bounds y x).1 (cmpR_bounds y x).2)
            rw [F1.1] at HC1
            rw [F2.1] at HC2
            rw [F1.2] at HS1
            rw [F2.2] at HS2
            have hWr : Below w.heap.size w wr := hX.below hb7w (by intro b hb h; omega)
            have j2 : ¬ (k : Int) < (L : Int) := by omega
            generalize cmpR x y = R1 at *
            generalize cmpR y x = R2 at *
            clear hI hv hyn hyl hyp hHD HE3 hsm F1 F2 hyo hyf hX HOD HDI HE HYF hlt hkL
            have qT := kT.cell
            have lT := kT.lt
            have qX := kX.cell
            have lX := kX.lt
            go_wp2_with fail
            refine (HC1.out _ _ _ HNN.out HYN.out).mono ?_
            rintro e wA ⟨vA, rfl, hOA, hbA⟩
            obtain ⟨f1, g1, f2, g2, rfl⟩ := hOA.ma.sized
            obtain ⟨r1, hr1⟩ : ∃ r, R1.1.length = r := ⟨_, rfl⟩
            obtain ⟨r2, hr2⟩ : ∃ r, R1.2.length = r := ⟨_, rfl⟩
            have HMA := Lib.hid hOA.ma
            rw [hr1, hr2] at HMA ⊢
            have hal : Below wA.heap.size wA (wA.alloc (.cells #[.slice f1 r1 g1, .slice f2 r2 g2] 29)) := (Below.refl _ wA).alloc (Nat.le_refl _) _
            have kF : Blk (wA.alloc (.cells #[.slice f1 r1 g1, .slice f2 r2 g2] 29)) wA.heap.size #[.slice f1 r1 g1, .slice f2 r2 g2] 29 := Blk.new _ rfl
            have kTA := Blk.by hal (Blk.by hbA kT)
            have kXA := Blk.by hal (Blk.by hbA kX)
            have HNA := Lib.hid ((HNN.out.by hbA).by hal)
            have HYA := Lib.hid ((HYN.out.by hbA).by hal)
            have HMB := Lib.hid (HMA.out.by hal)
            have hWA := below_on hal (below_on hbA hWr)
            clear qT lT qX lX hOA hbA hr1 hr2 hal HMA HNN HYN kT kX hWr
            have qT := kTA.cell
            have lT := kTA.lt
            have qX := kXA.cell
            have lX := kXA.lt
            go_wp2_with fail
            generalize wA.alloc (.cells #[.slice f1 r1 g1, .slice f2 r2 g2] 29) = wB at *
            generalize wA.heap.size = FB at *
            refine (HC2.out _ _ _ HYA.out HNA.out).mono ?_
            rintro e wC ⟨vC, rfl, hOC, hbC⟩
            obtain ⟨f3, g3, f4, g4, rfl⟩ := hOC.ma.sized
            obtain ⟨r3, hr3⟩ : ∃ r, R2.1.length = r := ⟨_, rfl⟩
            obtain ⟨r4, hr4⟩ : ∃ r, R2.2.length = r := ⟨_, rfl⟩
            have HMC := Lib.hid hOC.ma
            rw [hr3, hr4] at HMC ⊢
            have hal : Below wC.heap.size wC (wC.alloc (.cells #[.slice f3 r3 g3, .slice f4 r4 g4] 29)) := (Below.refl _ wC).alloc (Nat.le_refl _) _
            have kG : Blk (wC.alloc (.cells #[.slice f3 r3 g3, .slice f4 r4 g4] 29)) wC.heap.size #[.slice f3 r3 g3, .slice f4 r4 g4] 29 := Blk.new _ rfl
            have kTD := Blk.by hal (Blk.by hbC kTA)
            have kXD := Blk.by hal (Blk.by hbC kXA)
            have kFD := Blk.by hal (Blk.by hbC kF)
            have HND := Lib.hid ((HNA.out.by hbC).by hal)
            have HYD := Lib.hid ((HYA.out.by hbC).by hal)
            have HMD := Lib.hid ((HMB.out.by hbC).by hal)
            have HMG := Lib.hid (HMC.out.by hal)
            have hWD := below_on hal (below_on hbC hWA)
            clear qT lT qX lX hOC hbC hr3 hr4 hal HMC HNA HYA HMB kTA kXA kF hWA
            have qT := kTD.cell
            have lT := kTD.lt
            have qX := kXD.cell
            have lX := kXD.lt
            have qF := kFD.cell
            have lF := kFD.lt
            have qG := kG.cell
            have lG := kG.lt
            go_wp2_with fail
            generalize wC.alloc (.cells #[.slice f3 r3 g3, .slice f4 r4 g4] 29) = wD at *
            generalize wC.heap.size = GB at *
            refine (HS1.out _ _ _ _ HND.out HYD.out HMD.out).mono ?_
            rintro e wE ⟨rfl, hbE⟩
            have kTE := Blk.by hbE kTD
            have kXE := Blk.by hbE kXD
            have kGE := Blk.by hbE kG
            have HNE := Lib.hid (HND.out.by hbE)
            have HYE := Lib.hid (HYD.out.by hbE)
            have HMH := Lib.hid (HMG.out.by hbE)
            have hWE := below_on hbE hWD
            clear qT lT qX lX qF lF qG lG hbE
            have qT := kTE.cell
            have lT := kTE.lt
            have qX := kXE.cell
            have lX := kXE.lt
            have qG := kGE.cell
            have lG := kGE.lt
            go_wp2_with fail
            refine (HS2.out _ _ _ _ HYE.out HNE.out HMH.out).mono ?_
            rintro e wF ⟨rfl, hbF⟩
            have hWF := below_on hbF hWE
            clear qT lT qX lX qG lG hbF
            go_wp2
            go_ret
            exact ⟨rfl, hWF⟩
      · have i1 : (10 : Int) < N := by omega
        have i2 : decide ((10 : Int) < N) = true := decide_eq_true i1
        have i3 : decide (N > 10) = true := decide_eq_true i1
        go_wp2
        go_ret
        exact ⟨rfl, hb6⟩
    · have hal : Below w5.heap.size w5 (w5.alloc (.cells #[.int .i64 (apR x z).nets, .slice a3 (apR x z).ds.length c3, .slice a4 (apR x z).ps.length c4] 35)) := (Below.refl _ w5).alloc (Nat.le_refl _) _
      have hb6 := below_on hal (below_on hb5 hb4)
      obtain ⟨e1, e2⟩ := inv_bad hc
      generalize apC x z = C at *
      have e3 : (C != 0) = true := by simpa using e1
      have e4 : (C == 0) = false := by simpa using e1
      clear hc e2
      go_wp2
      go_ret
      exact ⟨rfl, hb6⟩
end Go.Proofs.YtifbffianbgeaaaGreat.fnPermuted
