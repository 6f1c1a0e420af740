/- ApplyMatching, the reference's. -/
import Derived.Test.YtlkcdelihdkgbaaGreatAps
import Derived.Test.YtlkcdelihdkgbaaGreatBldDMs
import Derived.Test.YtlkcdelihdkgbaaGreatRens
import Derived.Test.YtlkcdelihdkgbaaGreatPerm
import Derived.Test.YtlkcdelihdkgbaaGreatSpecNl
import Derived.Test.YtlkcdelihdkgbaaGreatInvSp
import Derived.Test.YtlkcdelihdkgbaaGreatBase
import Derived.Test.YtlkcdelihdkgbaaGreatDevs
import Derived.BigRegion
import Derived.Test.YtlkcdelihdkgbaaGreatOrdI
import Derived.Test.YtlkcdelihdkgbaaGreatImplNl
import Derived.Test.YtlkcdelihdkgbaaGreatCopies
namespace Go.Proofs.YtlkcdelihdkgbaaGreat
open Go.RowKit
set_option linter.unusedVariables false
set_option linter.unusedSimpArgs false

set_option maxRecDepth 100000 in
set_option maxHeartbeats 2000000 in
theorem specApply_any (x : Nl) (y : List Int × List Int) (v u : Value) (w : World) (h : NlV w v x) (hm : MaV w u y) (hok : ∀ p ∈ x.ps, p.ok) (hnn : Fits x.nets) (hl : y.1.length ≤ 1048576) (hl' : y.2.length ≤ 1048576) :
    Calls Tryz.prog 8 #[v, u] w fun e w' => ∃ v', e = .returned (.tuple #[v', .int .i64 (apC x y)]) ∧ OwnNlX w' w.heap.size w'.heap.size v' (apR x y) ∧ Below w.heap.size w w' := by
  have HV := Lib.hid (fun v w h => specNl_any x v w h hok hnn)
  have HN := Lib.hid h
  obtain ⟨s1, s2, rfl, hm1, hm2⟩ := hm
  obtain ⟨names, zs⟩ := y
  dsimp only at hm1 hm2 hl hl'
  have HS := Lib.hid hm1
  have HZ := Lib.hid hm2
  obtain ⟨rc, hrc⟩ : ∃ r, apC x (names, zs) = r := ⟨_, rfl⟩
  obtain ⟨rr, hrr⟩ : ∃ r, apR x (names, zs) = r := ⟨_, rfl⟩
  rw [hrc, hrr]
  unfold apC at hrc
  unfold apR at hrr
  obtain ⟨a, c, a', c', rfl⟩ := h.sized
  obtain ⟨am, cm, rfl⟩ := hm1.len
  obtain ⟨an, cn, rfl⟩ := hm2.len
  by_cases hb : nlB x = true
  · obtain ⟨⟨hn0, hn1⟩, hd24, hp8, hdv, _⟩ := nlB_facts hb
    have hnet := nl_netsX hb
    obtain ⟨nets, ds, ps⟩ := x
    dsimp only at *
    obtain ⟨m, rfl⟩ : ∃ m : Nat, nets = m := ⟨nets.toNat, by omega⟩
    rw [hb] at HV
    rw [if_pos hb] at hrc hrr
    have HO1 := Lib.hid (fun w h => specPerm_any (.slice am names.length cm) names m w h hl (by omega))
    have HO2 := Lib.hid (fun w h => specPerm_any (.slice an zs.length cn) zs ds.length w h hl' (by omega))
    obtain ⟨p1, hp1⟩ : ∃ p, permB names (m : Int) = p := ⟨_, rfl⟩
    obtain ⟨p2, hp2⟩ : ∃ p, permB zs (ds.length : Int) = p := ⟨_, rfl⟩
    rw [hp1] at HO1 hrc hrr
    rw [hp2] at HO2 hrc hrr
    cases p1 with
    | false =>
      simp only [Bool.false_eq_true, false_and, if_false] at hrc hrr
      subst hrc hrr
      clear h hm1 hm2 hok hnn hp1 hp2 hb hnet hdv HO2
      go_enter Tryz.func8, Tryz.ntmps8
      go_wp2_with fail
      refine (HV.out _ _ (HN.out.by (by ((repeat (first | (with_reducible exact Below.refl _ _) | (with_reducible refine below_drewN ?_ _) | (with_reducible refine Below.drew ?_) | (with_reducible refine below_al ?_ _) | (with_reducible refine below_on (by assumption) ?_) | ((with_reducible refine Below.setCell ?_ ?_ _); rotate_left; focus (first | omega | (simp; done) | (simp; omega))) | (with_reducible assumption))); done)))).mono ?_
      rintro e w1 ⟨rfl, hb1⟩
      have kA : Blk w1 w.heap.size #[.int .i64 (m : Int), .slice a ds.length c, .slice a' ps.length c'] 27 := (by ((repeat (first | (with_reducible assumption) | (with_reducible refine Blk.drewN ?_ _) | (with_reducible refine Blk.drew ?_) | ((with_reducible refine Blk.new _ ?_); focus (first | omega | (simp; done) | (simp; omega))) | (with_reducible refine Blk.past ?_ _) | ((with_reducible refine Blk.apart ?_ _ _ _ ?_); rotate_left; focus (first | omega | (simp; done) | (simp; omega))) | (with_reducible refine Blk.by (by assumption) ?_))); done))
      have kM : Blk w1 (w.heap.size + 1) #[.slice am names.length cm, .slice an zs.length cn] 30 := (by ((repeat (first | (with_reducible assumption) | (with_reducible refine Blk.drewN ?_ _) | (with_reducible refine Blk.drew ?_) | ((with_reducible refine Blk.new _ ?_); focus (first | omega | (simp; done) | (simp; omega))) | (with_reducible refine Blk.past ?_ _) | ((with_reducible refine Blk.apart ?_ _ _ _ ?_); rotate_left; focus (first | omega | (simp; done) | (simp; omega))) | (with_reducible refine Blk.by (by assumption) ?_))); done))
      have kR : Blk w1 (w.heap.size + 1 + 1) #[.int .i64 0, .slice none 0 0, .slice none 0 0] 27 := (by ((repeat (first | (with_reducible assumption) | (with_reducible refine Blk.drewN ?_ _) | (with_reducible refine Blk.drew ?_) | ((with_reducible refine Blk.new _ ?_); focus (first | omega | (simp; done) | (simp; omega))) | (with_reducible refine Blk.past ?_ _) | ((with_reducible refine Blk.apart ?_ _ _ _ ?_); rotate_left; focus (first | omega | (simp; done) | (simp; omega))) | (with_reducible refine Blk.by (by assumption) ?_))); done))
      have hW : Below w.heap.size w w1 := (by ((repeat (first | (with_reducible exact Below.refl _ _) | (with_reducible refine below_drewN ?_ _) | (with_reducible refine Below.drew ?_) | (with_reducible refine below_al ?_ _) | (with_reducible refine below_on (by assumption) ?_) | ((with_reducible refine Below.setCell ?_ ?_ _); rotate_left; focus (first | omega | (simp; done) | (simp; omega))) | (with_reducible assumption))); done))
      have qA := kA.cell
      have qM := kM.cell
      have lA := kA.lt
      have lM := kM.lt
      clear hb1
      go_wp2_with fail
      refine (HO1.out _ (HS.out.by hW)).mono ?_
      rintro e w2 ⟨rfl, hb2⟩
      replace kA := Blk.by hb2 kA
      replace kM := Blk.by hb2 kM
      replace kR := Blk.by hb2 kR
      replace hW := below_on hb2 hW
      clear hb2 qA qM lA lM
      have qA := kA.cell
      have qM := kM.cell
      have lA := kA.lt
      have lM := kM.lt
      have qR := kR.cell
      have fR := kR.free
      have lR := kR.lt
      go_wp2
      exact bodyPost_ret (v := .tuple #[.agg #[.int .i64 0, .slice none 0 0, .slice none 0 0], .int .i64 2]) (by simp [results, Tryz.results8, go_sem, *]) rfl ⟨_, rfl, nlZeroX _ _ _ (by simp; omega), (by ((repeat (first | (with_reducible exact Below.refl _ _) | (with_reducible refine below_drewN ?_ _) | (with_reducible refine Below.drew ?_) | (with_reducible refine below_al ?_ _) | (with_reducible refine below_on (by assumption) ?_) | ((with_reducible refine Below.setCell ?_ ?_ _); rotate_left; focus (first | omega | (simp; done) | (simp; omega))) | (with_reducible assumption))); done))⟩
    | true =>
      cases p2 with
      | false =>
        simp only [Bool.false_eq_true, and_false, if_false] at hrc hrr
        subst hrc hrr
        clear h hm1 hm2 hok hnn hp1 hp2 hb hnet hdv
        go_enter Tryz.func8, Tryz.ntmps8
        go_wp2_with fail
        refine (HV.out _ _ (HN.out.by (by ((repeat (first | (with_reducible exact Below.refl _ _) | (with_reducible refine below_drewN ?_ _) | (with_reducible refine Below.drew ?_) | (with_reducible refine below_al ?_ _) | (with_reducible refine below_on (by assumption) ?_) | ((with_reducible refine Below.setCell ?_ ?_ _); rotate_left; focus (first | omega | (simp; done) | (simp; omega))) | (with_reducible assumption))); done)))).mono ?_
        rintro e w1 ⟨rfl, hb1⟩
        have kA : Blk w1 w.heap.size #[.int .i64 (m : Int), .slice a ds.length c, .slice a' ps.length c'] 27 := (by ((repeat (first | (with_reducible assumption) | (with_reducible refine Blk.drewN ?_ _) | (with_reducible refine Blk.drew ?_) | ((with_reducible refine Blk.new _ ?_); focus (first | omega | (simp; done) | (simp; omega))) | (with_reducible refine Blk.past ?_ _) | ((with_reducible refine Blk.apart ?_ _ _ _ ?_); rotate_left; focus (first | omega | (simp; done) | (simp; omega))) | (with_reducible refine Blk.by (by assumption) ?_))); done))
        have kM : Blk w1 (w.heap.size + 1) #[.slice am names.length cm, .slice an zs.length cn] 30 := (by ((repeat (first | (with_reducible assumption) | (with_reducible refine Blk.drewN ?_ _) | (with_reducible refine Blk.drew ?_) | ((with_reducible refine Blk.new _ ?_); focus (first | omega | (simp; done) | (simp; omega))) | (with_reducible refine Blk.past ?_ _) | ((with_reducible refine Blk.apart ?_ _ _ _ ?_); rotate_left; focus (first | omega | (simp; done) | (simp; omega))) | (with_reducible refine Blk.by (by assumption) ?_))); done))
        have kR : Blk w1 (w.heap.size + 1 + 1) #[.int .i64 0, .slice none 0 0, .slice none 0 0] 27 := (by ((repeat (first | (with_reducible assumption) | (with_reducible refine Blk.drewN ?_ _) | (with_reducible refine Blk.drew ?_) | ((with_reducible refine Blk.new _ ?_); focus (first | omega | (simp; done) | (simp; omega))) | (with_reducible refine Blk.past ?_ _) | ((with_reducible refine Blk.apart ?_ _ _ _ ?_); rotate_left; focus (first | omega | (simp; done) | (simp; omega))) | (with_reducible refine Blk.by (by assumption) ?_))); done))
        have hW : Below w.heap.size w w1 := (by ((repeat (first | (with_reducible exact Below.refl _ _) | (with_reducible refine below_drewN ?_ _) | (with_reducible refine Below.drew ?_) | (with_reducible refine below_al ?_ _) | (with_reducible refine below_on (by assumption) ?_) | ((with_reducible refine Below.setCell ?_ ?_ _); rotate_left; focus (first | omega | (simp; done) | (simp; omega))) | (with_reducible assumption))); done))
        have qA := kA.cell
        have qM := kM.cell
        have lA := kA.lt
        have lM := kM.lt
        clear hb1
        go_wp2_with fail
        refine (HO1.out _ (HS.out.by hW)).mono ?_
        rintro e w2 ⟨rfl, hb2⟩
        replace kA := Blk.by hb2 kA
        replace kM := Blk.by hb2 kM
        replace kR := Blk.by hb2 kR
        replace hW := below_on hb2 hW
        clear hb2 qA qM lA lM
        have qA := kA.cell
        have qM := kM.cell
        have lA := kA.lt
        have lM := kM.lt
        go_wp2_with fail
        refine (HO2.out _ (HZ.out.by hW)).mono ?_
        rintro e w3 ⟨rfl, hb3⟩
        replace kA := Blk.by hb3 kA
        replace kM := Blk.by hb3 kM
        replace kR := Blk.by hb3 kR
        replace hW := below_on hb3 hW
        clear hb3 qA qM lA lM
        have qA := kA.cell
        have qM := kM.cell
        have lA := kA.lt
        have lM := kM.lt
        have qR := kR.cell
        have fR := kR.free
        have lR := kR.lt
        go_wp2
        exact bodyPost_ret (v := .tuple #[.agg #[.int .i64 0, .slice none 0 0, .slice none 0 0], .int .i64 2]) (by simp [results, Tryz.results8, go_sem, *]) rfl ⟨_, rfl, nlZeroX _ _ _ (by simp; omega), (by ((repeat (first | (with_reducible exact Below.refl _ _) | (with_reducible refine below_drewN ?_ _) | (with_reducible refine Below.drew ?_) | (with_reducible refine below_al ?_ _) | (with_reducible refine below_on (by assumption) ?_) | ((with_reducible refine Below.setCell ?_ ?_ _); rotate_left; focus (first | omega | (simp; done) | (simp; omega))) | (with_reducible assumption))); done))⟩
      | true =>
        simp only [and_self, if_true] at hrc hrr
        have hlen : (names.length : Int) = m := (permB_iff.1 hp1).1
        have hzl : zs.length = ds.length := by have := (permB_iff.1 hp2).1; omega
        have HZL := Lib.hid hzl
        have HR := Lib.hid (fun v w h h' => specRen_any ⟨(m : Int), ds, ps⟩ names (.slice am names.length cm) (m : Int) v w h h' (by dsimp only; omega) (by dsimp only; omega) (fun d hd => by have q := dvB_pins (hdv d hd); exact ⟨q.1, fun e => by rw [e] at q; simp at q, fun z hz => by have := q.2.2 z hz; omega⟩) (fun p hp => by have := hnet p hp; omega))
        have HSH := Lib.hid (show ∀ d ∈ ds, Shp d from fun d hd => shp_of (hdv d hd))
        have HP2 := Lib.hid hp2
        subst hrc
        subst hrr
        obtain ⟨RD, hRD⟩ : ∃ r, ds.map (renD names) = r := ⟨_, rfl⟩
        obtain ⟨RP, hRP⟩ : ∃ r, ps.map (renP names) = r := ⟨_, rfl⟩
        rw [hRD, hRP]
        have HRD := Lib.hid hRD
        have HRP := Lib.hid hRP
        have HI := Lib.hid (fun w h => specInv_any (.slice an zs.length cn) zs w h hl' (by rw [hzl]; exact hp2))
        clear h hm1 hm2 hok hnn hp1 hb hnet hdv hlen hp2 hzl hRD hRP
        go_enter Tryz.func8, Tryz.ntmps8
        go_wp2_with fail
        refine (HV.out _ _ (HN.out.by (by ((repeat (first | (with_reducible exact Below.refl _ _) | (with_reducible refine below_drewN ?_ _) | (with_reducible refine Below.drew ?_) | (with_reducible refine below_al ?_ _) | (with_reducible refine below_on (by assumption) ?_) | ((with_reducible refine Below.setCell ?_ ?_ _); rotate_left; focus (first | omega | (simp; done) | (simp; omega))) | (with_reducible assumption))); done)))).mono ?_
        rintro e w1 ⟨rfl, hb1⟩
        have kA : Blk w1 w.heap.size #[.int .i64 (m : Int), .slice a ds.length c, .slice a' ps.length c'] 27 := (by ((repeat (first | (with_reducible assumption) | (with_reducible refine Blk.drewN ?_ _) | (with_reducible refine Blk.drew ?_) | ((with_reducible refine Blk.new _ ?_); focus (first | omega | (simp; done) | (simp; omega))) | (with_reducible refine Blk.past ?_ _) | ((with_reducible refine Blk.apart ?_ _ _ _ ?_); rotate_left; focus (first | omega | (simp; done) | (simp; omega))) | (with_reducible refine Blk.by (by assumption) ?_))); done))
        have kM : Blk w1 (w.heap.size + 1) #[.slice am names.length cm, .slice an zs.length cn] 30 := (by ((repeat (first | (with_reducible assumption) | (with_reducible refine Blk.drewN ?_ _) | (with_reducible refine Blk.drew ?_) | ((with_reducible refine Blk.new _ ?_); focus (first | omega | (simp; done) | (simp; omega))) | (with_reducible refine Blk.past ?_ _) | ((with_reducible refine Blk.apart ?_ _ _ _ ?_); rotate_left; focus (first | omega | (simp; done) | (simp; omega))) | (with_reducible refine Blk.by (by assumption) ?_))); done))
        have kR : Blk w1 (w.heap.size + 1 + 1) #[.int .i64 0, .slice none 0 0, .slice none 0 0] 27 := (by ((repeat (first | (with_reducible assumption) | (with_reducible refine Blk.drewN ?_ _) | (with_reducible refine Blk.drew ?_) | ((with_reducible refine Blk.new _ ?_); focus (first | omega | (simp; done) | (simp; omega))) | (with_reducible refine Blk.past ?_ _) | ((with_reducible refine Blk.apart ?_ _ _ _ ?_); rotate_left; focus (first | omega | (simp; done) | (simp; omega))) | (with_reducible refine Blk.by (by assumption) ?_))); done))
        have hW : Below w.heap.size w w1 := (by ((repeat (first | (with_reducible exact Below.refl _ _) | (with_reducible refine below_drewN ?_ _) | (with_reducible refine Below.drew ?_) | (with_reducible refine below_al ?_ _) | (with_reducible refine below_on (by assumption) ?_) | ((with_reducible refine Below.setCell ?_ ?_ _); rotate_left; focus (first | omega | (simp; done) | (simp; omega))) | (with_reducible assumption))); done))
        have qA := kA.cell
        have qM := kM.cell
        have lA := kA.lt
        have lM := kM.lt
        clear hb1
        go_wp2_with fail
        refine (HO1.out _ (HS.out.by hW)).mono ?_
        rintro e w2 ⟨rfl, hb2⟩
        replace kA := Blk.by hb2 kA
        replace kM := Blk.by hb2 kM
        replace kR := Blk.by hb2 kR
        replace hW := below_on hb2 hW
        clear hb2 qA qM lA lM
        have qA := kA.cell
        have qM := kM.cell
        have lA := kA.lt
        have lM := kM.lt
        go_wp2_with fail
        refine (HO2.out _ (HZ.out.by hW)).mono ?_
        rintro e w3 ⟨rfl, hb3⟩
        replace kA := Blk.by hb3 kA
        replace kM := Blk.by hb3 kM
        replace kR := Blk.by hb3 kR
        replace hW := below_on hb3 hW
        clear hb3 qA qM lA lM
        have qA := kA.cell
        have qM := kM.cell
        have lA := kA.lt
        have lM := kM.lt
        go_wp2_with fail
        refine (HR.out _ _ (HN.out.by hW) (HS.out.by hW)).mono ?_
        rintro e w4 ⟨v4, rfl, hO, hb4⟩
        have hlo := kR.lt
        have hs43 := hb4.size
        replace kA := Blk.by hb4 kA
        replace kM := Blk.by hb4 kM
        replace kR := Blk.by hb4 kR
        replace hW := below_on hb4 hW
        clear hb4 qA qM lA lM
        have qA := kA.cell
        have qM := kM.cell
        have lA := kA.lt
        have lM := kM.lt
        obtain ⟨s1, s2, lo1, hi1, lo2, hi2, rfl, hOD, hOP, hi1', hi2', hap⟩ := hO
        simp only [renS, HRD.out, HRP.out] at hOD hOP
        obtain ⟨f, pv, hAT, hinj⟩ := hOD.at
        obtain ⟨a1, c1, rfl⟩ := hOD.sl.sized
        obtain ⟨a2, c2, rfl⟩ := hOP.sl.sized
        obtain ⟨P, hPP, hPr⟩ := hOP.pick w.heap.size
        have hrl : RD.length = ds.length := by rw [← HRD.out, List.length_map]
        have HRL := Lib.hid hrl
        have HAT := Lib.hid hAT
        have HPP := Lib.hid hPP
        have HINJ := Lib.hid hinj
        have HNE := Lib.hid (show ∀ (i : Nat) x, RD[i]? = some x → f i ≠ P ∧ lo1 ≤ f i ∧ f i < hi1 from fun i x hx => by have := (hAT i x hx).2.2; omega)
        have HP2R := Lib.hid (show permB zs (RD.length : Int) = true by rw [hrl]; exact HP2.out)
        have HZR := Lib.hid (show zs.length = RD.length by rw [hrl]; exact HZL.out)
        have hk4 := kR.lt
        have hd24' : RD.length ≤ 24 := by omega
        obtain ⟨X, hX⟩ : ∃ X, w4.heap.size = X := ⟨_, rfl⟩
        rw [hX] at hi1' hi2' hk4
        have hPX : P < X := by omega
        have hPR : P ≠ w.heap.size + 1 + 1 := by omega
        have hPw : w.heap.size ≤ P := by omega
        have h3X : w3.heap.size ≤ X := by omega
        have HX := Lib.hid hX
        clear hOD hOP hAT hPP hinj hX hrl
        go_wp2_with fail
        refine (HI.out _ (HZ.out.by (by ((repeat (first | (with_reducible exact Below.refl _ _) | (with_reducible refine below_drewN ?_ _) | (with_reducible refine Below.drew ?_) | (with_reducible refine below_al ?_ _) | (with_reducible refine below_on (by assumption) ?_) | ((with_reducible refine Below.setCell ?_ ?_ _); rotate_left; focus (first | omega | (simp; done) | (simp; omega))) | (with_reducible assumption))); done)))).mono ?_
        rintro e w5 ⟨v5, rfl, hOI, hb5⟩
        rw [HX.out]
        have hal : Below w4.heap.size w4 (w4.alloc (.cells #[.int .i64 (m : Int), .slice a1 RD.length c1, .slice a2 RP.length c2] 27)) := (Below.refl _ w4).alloc (Nat.le_refl _) _
        have kX : Blk w5 X #[.int .i64 (m : Int), .slice a1 RD.length c1, .slice a2 RP.length c2] 27 := Blk.by hb5 (Blk.new _ HX.out.symm)
        replace kR := Blk.by hb5 (Blk.by hal kR)
        replace HAT := Lib.hid ((HAT.out.by hal).by hb5)
        replace HPP := Lib.hid ((HPP.out.by hal).by hb5)
        replace hW := below_on hb5 (hW.trans (hal.mono (by have := HX.out; omega)))
        obtain ⟨ao, co, rfl⟩ := hOI.sl.len
        have hsz5 := hb5.size
        simp only [World.size_alloc] at hsz5
        simp only [World.size_alloc, HX.out] at hOI
        rw [length_invS] at hOI ⊢
        have HOI := Lib.hid hOI
        clear hOI hb5 hal kA kM qA qM lA lM HN HS HZ HI HR HV HO1 HO2 HX
        have qX := kX.cell
        obtain ⟨Y, hY⟩ : ∃ Y, w5.heap.size = Y := ⟨_, rfl⟩
        rw [hY] at HOI
        have hXY : X < Y := by have := kX.lt; omega
        have hRY : w.heap.size + 1 + 1 < X := hk4
        go_wp2
        obtain ⟨wA, hwA⟩ : ∃ wA, wA = w5.alloc (.cells #[.int .i64 (m : Int), .slice none 0 0, .slice a2 RP.length c2] 27) := ⟨_, rfl⟩
        have hal : Below w5.heap.size w5 wA := by rw [hwA]; exact (Below.refl _ w5).alloc (Nat.le_refl _) _
        have kY : Blk wA Y #[.int .i64 (m : Int), .slice none 0 0, .slice a2 RP.length c2] 27 := by rw [hwA]; exact Blk.new _ hY.symm
        have hsA : wA.heap.size = Y + 1 := by rw [hwA]; simp [hY]
        have kXA := Blk.by hal kX
        have kRA := Blk.by hal kR
        have HATA := Lib.hid (HAT.out.by hal)
        have HPPA := Lib.hid (HPP.out.by hal)
        have HOIA := Lib.hid (OwnR.by hal HOI.out)
        have hWA := below_on hal hW
        have hBn := BldR.nil wA (Y + 1)
        rw [hsA] at hBn
        rw [← hwA]; (try rw [hY])
        clear hwA hal kX kR HAT HPP HOI hW qX hsA hY
        have HTD := Lib.hid (fun k d h => take_snoc_of (ordD zs RD) k d h)
        have HTI := Lib.hid (fun k d h => take_snoc_of (invS zs) k d h)
        go_loopw [9] (fun i wr => ∃ (k hi : Nat) (vv : Value), k ≤ zs.length ∧ i = .int .i64 k ∧ Hid (BldR wr (Y + 1) hi vv ((ordD zs RD).take k) (((invS zs).take k).map fun z => pv z.toNat)) ∧ Y + 1 ≤ hi ∧ Blk wr X #[.int .i64 (m : Int), .slice a1 RD.length c1, .slice a2 RP.length c2] 27 ∧ Blk wr Y #[.int .i64 (m : Int), vv, .slice a2 RP.length c2] 27 ∧ Blk wr (w.heap.size + 1 + 1) #[.int .i64 0, .slice none 0 0, .slice none 0 0] 27 ∧ Hid (DsAt wr lo1 hi1 (.slice a1 RD.length c1) RD f pv) ∧ Hid (OwnPs wr P (P + 1) (.slice a2 RP.length c2) RP) ∧ Hid (OwnR wr (X + 1) Y (.slice ao zs.length co) (invS zs)) ∧ Below w.heap.size w wr) (fun i _ => zs.length - (intOf i).toNat)
        case atStart => exact ⟨0, Y + 1, .slice none 0 0, Nat.zero_le _, rfl, Lib.hid hBn, Nat.le_refl _, kXA, kY, kRA, HATA, HPPA, HOIA, hWA⟩
        case round =>
          clear kXA kY kRA HATA HPPA HOIA hWA hBn
          obtain ⟨k, hi, vv, hk, rfl, HB, hhi, kX, kY, kR, HAT, HPP, HOI, hb⟩ := hrel
          have hml : ((ordD zs RD).take k).length = k := by rw [List.length_take, length_ordD]; omega
          obtain ⟨av, cv, rfl⟩ := HB.out.sized
          rw [hml] at HB kY
          have HML := Lib.hid hml
          have hhs := HB.out.1
          clear hml
          by_cases hlt : k < zs.length
          · obtain ⟨d, hd⟩ : ∃ d, (ordD zs RD)[k]? = some d := ⟨(ordD zs RD)[k]'(by rw [length_ordD]; exact hlt), List.getElem?_eq_getElem _⟩
            obtain ⟨j, e1, e2, e3⟩ := ordD_inv HP2R.out k d hd
            obtain ⟨⟨g, cap, cs, hsv, hg, kG, d0, d1, d2, d3⟩, hOR, hf⟩ := HAT.out j d e3
            obtain ⟨rfl, rfl⟩ : a1 = some ⟨g, 0, none⟩ ∧ c1 = cap := by simpa using hsv
            rcases HOI.out with ⟨_, _, _, e4⟩ | ⟨ob, ocap, ocs, hoe, ho1, ho2, _, _, kO, hoc⟩
            · rw [e4] at e1; simp at e1
            obtain ⟨rfl, rfl⟩ : ao = some ⟨ob, 0, none⟩ ∧ co = ocap := by simpa [length_invS] using hoe
            have e5 : wr.cell? ⟨ob, k, none⟩ = some (.int .i64 (j : Int)) := (kO.cell _).trans (hoc k j e1)
            have hone := hOR.one
            have hjl : j < RD.length := (List.getElem?_eq_some_iff.1 e3).1
            have i1 : (0 : Int) ≤ (k : Int) := by omega
            have i2 : (k : Int) < (zs.length : Int) := by omega
            have i3 : (0 : Int) ≤ (j : Int) := by omega
            have i4 : (j : Int) < (RD.length : Int) := by omega
            have HLM := Lib.hid (show ((ordD zs RD).take k).length ≤ 1000 by have := HZR.out; rw [HML.out]; omega)
            have HD := Lib.hid hd
            have HE1 := Lib.hid e1
            have HONE := Lib.hid hone
            have g0 : wr.cell? ⟨g, j * 4, none⟩ = some (.int .i64 d.kind) := (kG.cell _).trans d0
            have g1 : wr.cell? ⟨g, j * 4 + 1, none⟩ = some (pv j) := (kG.cell _).trans d1
            have g2 : wr.cell? ⟨g, j * 4 + 2, none⟩ = some (.int .i64 d.wd) := (kG.cell _).trans d2
            have g3 : wr.cell? ⟨g, j * 4 + 3, none⟩ = some (.int .i64 d.len) := (kG.cell _).trans d3
            have cY1 : wr.cell? ⟨Y, 1, none⟩ = some (.slice av k cv) := kY.cell 1
            have cX1 : wr.cell? ⟨X, 1, none⟩ = some (.slice (some ⟨g, 0, none⟩) RD.length c1) := kX.cell 1
            have lY := kY.lt
            have lX := kX.lt
            have lR := kR.lt
            have lG := kG.lt
            have lO := kO.lt
            clear hd e1 hone hoc e3 hsv hoe hOR d0 d1 d2 d3
            go_wp2_with fail
            refine wp_region_any (by kernel_rfl) (wpAny_of_E (S := fun w' => w'.cell? ⟨Y, 1, none⟩ = some (.slice av k cv) ∧ w'.cell? ⟨X, 1, none⟩ = some (.slice (some ⟨g, 0, none⟩) RD.length c1) ∧ w'.cell? ⟨ob, k, none⟩ = some (.int .i64 (j : Int)) ∧ w'.cell? ⟨g, j * 4, none⟩ = some (.int .i64 d.kind) ∧ w'.cell? ⟨g, j * 4 + 1, none⟩ = some (pv j) ∧ w'.cell? ⟨g, j * 4 + 2, none⟩ = some (.int .i64 d.wd) ∧ w'.cell? ⟨g, j * 4 + 3, none⟩ = some (.int .i64 d.len)) (l := 13) _ _ _ _ ?_)
            have hS : (fun w' : World => w'.cell? ⟨Y, 1, none⟩ = some (.slice av k cv) ∧ w'.cell? ⟨X, 1, none⟩ = some (.slice (some ⟨g, 0, none⟩) RD.length c1) ∧ w'.cell? ⟨ob, k, none⟩ = some (.int .i64 (j : Int)) ∧ w'.cell? ⟨g, j * 4, none⟩ = some (.int .i64 d.kind) ∧ w'.cell? ⟨g, j * 4 + 1, none⟩ = some (pv j) ∧ w'.cell? ⟨g, j * 4 + 2, none⟩ = some (.int .i64 d.wd) ∧ w'.cell? ⟨g, j * 4 + 3, none⟩ = some (.int .i64 d.len)) { wr with drawn := wr.drawn + 1 } := ⟨cY1, cX1, e5, g0, g1, g2, g3⟩
            change wpAnyE _ _ _ _ _ _ _ _ _ wr.drew
            refine wpAnyE_take (i := 0) (v := ?_) rfl (by kernel_rfl) (fun _ _ _ h => h) (Or.inl ⟨by rfl, ?_⟩) hS ?_
            rotate_left
            · intro w hSw; (try dsimp only at hSw); go_simp; (try with_reducible rfl)
            try simp only [Act.put, List.setIfInBounds_toArray, List.set_cons_zero, List.set_cons_succ]
            refine wpAnyE_take (i := 1) (v := ?_) rfl (by kernel_rfl) (fun _ _ _ h => h) (Or.inl ⟨by rfl, ?_⟩) hS ?_
            rotate_left
            · intro w hSw; (try dsimp only at hSw); go_simp; (try with_reducible rfl)
            try simp only [Act.put, List.setIfInBounds_toArray, List.set_cons_zero, List.set_cons_succ]
            refine wpAnyE_take (i := 2) (v := ?_) rfl (by kernel_rfl) (fun _ _ _ h => h) (Or.inl ⟨by rfl, ?_⟩) hS ?_
            rotate_left
            · intro w hSw; (try dsimp only at hSw); go_simp; (try with_reducible rfl)
            try simp only [Act.put, List.setIfInBounds_toArray, List.set_cons_zero, List.set_cons_succ]
            refine wpAnyE_take (i := 3) (v := ?_) rfl (by kernel_rfl) (fun _ _ _ h => h) (Or.inl ⟨by rfl, ?_⟩) hS ?_
            rotate_left
            · intro w hSw; (try dsimp only at hSw); go_simp; (try with_reducible rfl)
            try simp only [Act.put, List.setIfInBounds_toArray, List.set_cons_zero, List.set_cons_succ]
            refine wpAnyE_take (i := 4) (v := ?_) rfl (by kernel_rfl) (fun _ _ _ h => h) (Or.inl ⟨by rfl, ?_⟩) hS ?_
            rotate_left
            · intro w hSw; (try dsimp only at hSw); go_simp; (try with_reducible rfl)
            try simp only [Act.put, List.setIfInBounds_toArray, List.set_cons_zero, List.set_cons_succ]
            refine wpAnyE_take (i := 5) (v := ?_) rfl (by kernel_rfl) (fun _ _ _ h => h) (Or.inl ⟨by rfl, ?_⟩) hS ?_
            rotate_left
            · intro w hSw; (try dsimp only at hSw); go_simp; (try with_reducible rfl)
            try simp only [Act.put, List.setIfInBounds_toArray, List.set_cons_zero, List.set_cons_succ]
            refine wpAnyE_take (i := 6) (v := ?_) rfl (by kernel_rfl) (fun _ _ _ h => h) (Or.inl ⟨by rfl, ?_⟩) hS ?_
            rotate_left
            · intro w hSw; (try dsimp only at hSw); go_simp; (try with_reducible rfl)
            try simp only [Act.put, List.setIfInBounds_toArray, List.set_cons_zero, List.set_cons_succ]
            refine wpAnyE_take (i := 7) (v := ?_) rfl (by kernel_rfl) (fun _ _ _ h => h) (Or.inl ⟨by rfl, ?_⟩) hS ?_
            rotate_left
            · intro w hSw; (try dsimp only at hSw); go_simp; (try with_reducible rfl)
            try simp only [Act.put, List.setIfInBounds_toArray, List.set_cons_zero, List.set_cons_succ]
            refine wpAnyE_take (i := 8) (v := ?_) rfl (by kernel_rfl) (fun _ _ _ h => h) (Or.inl ⟨by rfl, ?_⟩) hS ?_
            rotate_left
            · intro w hSw; (try dsimp only at hSw); go_simp; (try with_reducible rfl)
            try simp only [Act.put, List.setIfInBounds_toArray, List.set_cons_zero, List.set_cons_succ]
            refine wpAnyE_take (i := 9) (v := ?_) rfl (by kernel_rfl) (fun _ _ _ h => h) (Or.inl ⟨by rfl, ?_⟩) hS ?_
            rotate_left
            · intro w hSw; (try dsimp only at hSw); go_simp; (try with_reducible rfl)
            try simp only [Act.put, List.setIfInBounds_toArray, List.set_cons_zero, List.set_cons_succ]
            refine wpAnyE_one (k := 10) (by kernel_rfl) rfl (fun K hK => ?_)
            go_simp
            refine hK.out _ _ (fun _ => ?_) ?_
            · have hal : Below wr.heap.size wr (wr.drew.alloc (.cells #[.int .i64 d.kind, pv j, .int .i64 d.wd, .int .i64 d.len] 56)) := (Below.refl _ wr).drew.alloc (Nat.le_refl _) _
              exact ⟨cell_by' hal cY1, cell_by' hal cX1, cell_by' hal e5, cell_by' hal g0, cell_by' hal g1, cell_by' hal g2, cell_by' hal g3⟩
            try simp only [Act.put, List.setIfInBounds_toArray, List.set_cons_zero, List.set_cons_succ]
            refine wpAnyE_one (k := 11) (by kernel_rfl) rfl (fun K hK => ?_)
            have hal : Below wr.heap.size wr (wr.drew.alloc (.cells #[.int .i64 d.kind, pv j, .int .i64 d.wd, .int .i64 d.len] 56)) := (Below.refl _ wr).drew.alloc (Nat.le_refl _) _
            refine step_pushR (by rfl) _ _ (by rfl) (Y + 1) hi (.slice av k cv) ((ordD zs RD).take k) (((invS zs).take k).map fun z => pv z.toNat) (by rfl) (HB.out.by hal) wr.heap.size d (pv j) (by rfl) (Blk.new _ rfl) HONE.out hhi HLM.out ?_
            intro a' c' w3 hB3 hw3
            rw [HML.out] at hB3 ⊢
            have HB3 := Lib.hid hB3
            have kX3 := hw3.blk (Blk.by hal kX) (by omega)
            have kY3 := hw3.blk (Blk.by hal kY) (by omega)
            have kR3 := hw3.blk (Blk.by hal kR) (by omega)
            have kG3 := hw3.blk (Blk.by hal kG) (by omega)
            have hb3 := hw3.below (below_on hal hb) (by omega)
            have hsz3 := hw3.size
            simp only [World.size_alloc, World.size_drew] at hsz3
            have HAT3 := Lib.hid (DsAt.past hw3 (HAT.out.by hal) (by omega))
            have HPP3 := Lib.hid (OwnPs.past hw3 (HPP.out.by hal) (by omega))
            have HOI3 := Lib.hid (OwnR.past hw3 (OwnR.by hal HOI.out) (by omega))
            have kO3 := hw3.blk (Blk.by hal kO) (by omega)
            have cY3 : w3.cell? ⟨Y, 1, none⟩ = some (.slice av k cv) := kY3.cell 1
            have fY3 : w3.frozen? ⟨Y, 1, none⟩ = false := kY3.free 1
            have lY3 := kY3.lt
            have hS3 : w3.cell? ⟨Y, 1, none⟩ = some (.slice av k cv) ∧ w3.cell? ⟨X, 1, none⟩ = some (.slice (some ⟨g, 0, none⟩) RD.length c1) ∧ w3.cell? ⟨ob, k, none⟩ = some (.int .i64 (j : Int)) ∧ w3.cell? ⟨g, j * 4, none⟩ = some (.int .i64 d.kind) ∧ w3.cell? ⟨g, j * 4 + 1, none⟩ = some (pv j) ∧ w3.cell? ⟨g, j * 4 + 2, none⟩ = some (.int .i64 d.wd) ∧ w3.cell? ⟨g, j * 4 + 3, none⟩ = some (.int .i64 d.len) := ⟨cY3, kX3.cell 1, (kO3.cell _).trans ((kO.cell _).symm.trans e5), (kG3.cell _).trans ((kG.cell _).symm.trans g0), (kG3.cell _).trans ((kG.cell _).symm.trans g1), (kG3.cell _).trans ((kG.cell _).symm.trans g2), (kG3.cell _).trans ((kG.cell _).symm.trans g3)⟩
            clear hB3
            refine hK.out _ _ (fun _ => hS3) ?_
            try simp only [Act.put, List.setIfInBounds_toArray, List.set_cons_zero, List.set_cons_succ]
            refine wpAnyE_one (k := 12) (by kernel_rfl) rfl (fun K hK => ?_)
            go_simp
            refine hK.out _ _ (fun _ => hS3) ?_
            try simp only [Act.put, List.setIfInBounds_toArray, List.set_cons_zero, List.set_cons_succ]
            refine wpAnyE_one (k := 13) (by kernel_rfl) rfl (fun K hK => ?_)
            go_simp
            refine hK.out _ _ (fun h => absurd rfl h) ?_
            refine wpAnyE_done (by kernel_rfl) ?_ _
            clear hS hS3
            go_wp2_with fail
            have hW4 : Within Y (Y + 1) w3 (w3.setCell ⟨Y, 1, none⟩ (.slice a' (k + 1) c')) := Within.off _
            refine ⟨⟨k + 1, w3.heap.size, .slice a' (k + 1) c', by omega, by go_num, Lib.hid ?_, by omega, kX3.apart _ 1 _ (by omega), kY3.set 1 _, kR3.apart _ 1 _ (by omega), Lib.hid (DsAt.past hW4 HAT3.out (by omega)), Lib.hid (OwnPs.past hW4 HPP3.out (by omega)), Lib.hid (OwnR.past hW4 HOI3.out (by omega)), hb3.setCell (by simp; omega) _⟩, by simp [intOf]; omega⟩
            rw [HTD.out k d HD.out, HTI.out k j HE1.out, List.map_append]
            exact BldR.past hW4 HB3.out (by omega)
          · obtain rfl : k = zs.length := by omega
            have hBD := HB.out
            rw [List.take_of_length_le (by rw [length_ordD]; exact Nat.le_refl _), List.take_of_length_le (by rw [length_invS]; exact Nat.le_refl _)] at hBD
            have hXD : OwnDsX wr w3.heap.size hi P (.slice av zs.length cv) (ordD zs RD) := by
              refine BldR.ownX (f := fun i => f ((invS zs).getD i 0).toNat) hBD (by omega) (Nat.le_refl _) (.inl (by omega)) (fun i x pv' hx hp' => ?_) (fun i i' hi1 hi2 hne' => ?_)
              · obtain ⟨j, q1, q2, q3⟩ := ordD_inv HP2R.out i x hx
                have hin : (invS zs).getD i 0 = (j : Int) := by simp [List.getD_eq_getElem?_getD, q1]
                have hpv : pv' = pv j := by simpa [q1] using hp'.symm
                obtain ⟨_, hOR, hf⟩ := HAT.out j x q3
                have hn := HNE.out j x q3
                (try dsimp only)
                rw [hin, hpv, Int.toNat_natCast]
                exact ⟨hOR, by omega, by omega, hn.1⟩
              · rw [length_ordD] at hi1 hi2
                obtain ⟨x1, hx1⟩ : ∃ x1, (ordD zs RD)[i]? = some x1 := ⟨(ordD zs RD)[i]'(by rw [length_ordD]; exact hi1), List.getElem?_eq_getElem _⟩
                obtain ⟨x2, hx2⟩ : ∃ x2, (ordD zs RD)[i']? = some x2 := ⟨(ordD zs RD)[i']'(by rw [length_ordD]; exact hi2), List.getElem?_eq_getElem _⟩
                obtain ⟨j1, q1, q2, q3⟩ := ordD_inv HP2R.out i x1 hx1
                obtain ⟨j2, r1, r2, r3⟩ := ordD_inv HP2R.out i' x2 hx2
                have e1 : (invS zs).getD i 0 = (j1 : Int) := by simp [List.getD_eq_getElem?_getD, q1]
                have e2 : (invS zs).getD i' 0 = (j2 : Int) := by simp [List.getD_eq_getElem?_getD, r1]
                (try dsimp only)
                rw [e1, e2, Int.toNat_natCast, Int.toNat_natCast]
                refine HINJ.out j1 j2 (List.getElem?_eq_some_iff.1 q3).1 (List.getElem?_eq_some_iff.1 r3).1 (fun e => hne' ?_)
                subst e
                exact invS_inj HP2R.out i i' _ q1 r1
            have HXD := Lib.hid hXD
            have qY := kY.cell
            have lY := kY.lt
            have qR := kR.cell
            have fR := kR.free
            have lR := kR.lt
            clear hBD HB hXD
            go_wp2
            refine bodyPost_ret (v := .tuple #[.agg #[.int .i64 (m : Int), .slice av zs.length cv, .slice a2 RP.length c2], .int .i64 0]) (by simp [results, Tryz.results8, go_sem, *]) rfl ⟨_, rfl, ⟨_, _, P, rfl, ?_, ?_, ⟨by omega, by simp; omega⟩⟩, (by ((repeat (first | (with_reducible exact Below.refl _ _) | (with_reducible refine below_drewN ?_ _) | (with_reducible refine Below.drew ?_) | (with_reducible refine below_al ?_ _) | (with_reducible refine below_on (by assumption) ?_) | ((with_reducible refine Below.setCell ?_ ?_ _); rotate_left; focus (first | omega | (simp; done) | (simp; omega))) | (with_reducible assumption))); done))⟩
            · refine OwnDsX.wide (lo := w3.heap.size) (hi := hi) ?_ (by omega) (by simp; omega)
              exact ((HXD.out.past (Within.off _) (by omega)).past (Within.off _) (by omega)).past (Within.off _) (by omega)
            · exact ((HPP.out.past (Within.off _) (by omega)).past (Within.off _) (by omega)).past (Within.off _) (by omega)
  · rw [if_neg hb] at hrc hrr
    have hbf : nlB x = false := by simpa using hb
    rw [hbf] at HV
    subst hrc hrr
    clear h hm1 hm2 hok hnn hb hbf
    go_enter Tryz.func8, Tryz.ntmps8
    go_wp2_with fail
    refine (HV.out _ _ (HN.out.by (by ((repeat (first | (with_reducible exact Below.refl _ _) | (with_reducible refine below_drewN ?_ _) | (with_reducible refine Below.drew ?_) | (with_reducible refine below_al ?_ _) | (with_reducible refine below_on (by assumption) ?_) | ((with_reducible refine Below.setCell ?_ ?_ _); rotate_left; focus (first | omega | (simp; done) | (simp; omega))) | (with_reducible assumption))); done)))).mono ?_
    rintro e w1 ⟨rfl, hb1⟩
    have kR : Blk w1 (w.heap.size + 1 + 1) #[.int .i64 0, .slice none 0 0, .slice none 0 0] 27 := (by ((repeat (first | (with_reducible assumption) | (with_reducible refine Blk.drewN ?_ _) | (with_reducible refine Blk.drew ?_) | ((with_reducible refine Blk.new _ ?_); focus (first | omega | (simp; done) | (simp; omega))) | (with_reducible refine Blk.past ?_ _) | ((with_reducible refine Blk.apart ?_ _ _ _ ?_); rotate_left; focus (first | omega | (simp; done) | (simp; omega))) | (with_reducible refine Blk.by (by assumption) ?_))); done))
    have hW : Below w.heap.size w w1 := (by ((repeat (first | (with_reducible exact Below.refl _ _) | (with_reducible refine below_drewN ?_ _) | (with_reducible refine Below.drew ?_) | (with_reducible refine below_al ?_ _) | (with_reducible refine below_on (by assumption) ?_) | ((with_reducible refine Below.setCell ?_ ?_ _); rotate_left; focus (first | omega | (simp; done) | (simp; omega))) | (with_reducible assumption))); done))
    have qR := kR.cell
    have fR := kR.free
    have lR := kR.lt
    clear hb1
    go_wp2
    exact bodyPost_ret (v := .tuple #[.agg #[.int .i64 0, .slice none 0 0, .slice none 0 0], .int .i64 1]) (by simp [results, Tryz.results8, go_sem, *]) rfl ⟨_, rfl, nlZeroX _ _ _ (by simp; omega), (by ((repeat (first | (with_reducible exact Below.refl _ _) | (with_reducible refine below_drewN ?_ _) | (with_reducible refine Below.drew ?_) | (with_reducible refine below_al ?_ _) | (with_reducible refine below_on (by assumption) ?_) | ((with_reducible refine Below.setCell ?_ ?_ _); rotate_left; focus (first | omega | (simp; done) | (simp; omega))) | (with_reducible assumption))); done))⟩
end Go.Proofs.YtlkcdelihdkgbaaGreat

/- ApplyMatching, the program's. -/
namespace Go.Proofs.YtlkcdelihdkgbaaGreat
open Go.RowKit
set_option linter.unusedVariables false
set_option linter.unusedSimpArgs false

set_option maxRecDepth 100000 in
set_option maxHeartbeats 2000000 in
theorem implApply_any (x : Nl) (y : List Int × List Int) (v u : Value) (w : World) (h : NlV w v x) (hm : MaV w u y) (hok : ∀ p ∈ x.ps, p.ok) (hnn : Fits x.nets) (hl : y.1.length ≤ 1048576) (hl' : y.2.length ≤ 1048576) :
    Calls Tryz.prog 7 #[v, u] w fun e w' => ∃ v', e = .returned (.tuple #[v', .int .i64 (apC x y)]) ∧ OwnNlX w' w.heap.size w'.heap.size v' (apR x y) ∧ Below w.heap.size w w' := by
  have HV := Lib.hid (fun v w h => implNl_any x v w h hok hnn)
  have HN := Lib.hid h
  obtain ⟨s1, s2, rfl, hm1, hm2⟩ := hm
  obtain ⟨names, zs⟩ := y
  dsimp only at hm1 hm2 hl hl'
  have HS := Lib.hid hm1
  have HZ := Lib.hid hm2
  obtain ⟨rc, hrc⟩ : ∃ r, apC x (names, zs) = r := ⟨_, rfl⟩
  obtain ⟨rr, hrr⟩ : ∃ r, apR x (names, zs) = r := ⟨_, rfl⟩
  rw [hrc, hrr]
  unfold apC at hrc
  unfold apR at hrr
  obtain ⟨a, c, a', c', rfl⟩ := h.sized
  obtain ⟨am, cm, rfl⟩ := hm1.len
  obtain ⟨an, cn, rfl⟩ := hm2.len
  by_cases hb : nlB x = true
  · obtain ⟨⟨hn0, hn1⟩, hd24, hp8, hdv, _⟩ := nlB_facts hb
    have hnet := nl_netsX hb
    obtain ⟨nets, ds, ps⟩ := x
    dsimp only at *
    obtain ⟨m, rfl⟩ : ∃ m : Nat, nets = m := ⟨nets.toNat, by omega⟩
    rw [hb] at HV
    rw [if_pos hb] at hrc hrr
    have HO1 := Lib.hid (fun w h => implOrder_any (.slice am names.length cm) names m w h hl)
    have HO2 := Lib.hid (fun w h => implOrder_any (.slice an zs.length cn) zs ds.length w h hl')
    obtain ⟨p1, hp1⟩ : ∃ p, permB names (m : Int) = p := ⟨_, rfl⟩
    obtain ⟨p2, hp2⟩ : ∃ p, permB zs (ds.length : Int) = p := ⟨_, rfl⟩
    rw [hp1] at HO1 hrc hrr
    rw [hp2] at HO2 hrc hrr
    cases p1 with
    | false =>
      simp only [Bool.false_eq_true, false_and, if_false] at hrc hrr
      subst hrc hrr
      clear h hm1 hm2 hok hnn hp1 hp2 hb hnet hdv HO2
      go_enter Tryz.func7, Tryz.ntmps7
      go_wp2_with fail
      refine (HV.out _ _ (HN.out.by (by ((repeat (first | (with_reducible exact Below.refl _ _) | (with_reducible refine below_drewN ?_ _) | (with_reducible refine Below.drew ?_) | (with_reducible refine below_al ?_ _) | (with_reducible refine below_on (by assumption) ?_) | ((with_reducible refine Below.setCell ?_ ?_ _); rotate_left; focus (first | omega | (simp; done) | (simp; omega))) | (with_reducible assumption))); done)))).mono ?_
      rintro e w1 ⟨rfl, hb1⟩
      have kA : Blk w1 w.heap.size #[.int .i64 (m : Int), .slice a ds.length c, .slice a' ps.length c'] 27 := (by ((repeat (first | (with_reducible assumption) | (with_reducible refine Blk.drewN ?_ _) | (with_reducible refine Blk.drew ?_) | ((with_reducible refine Blk.new _ ?_); focus (first | omega | (simp; done) | (simp; omega))) | (with_reducible refine Blk.past ?_ _) | ((with_reducible refine Blk.apart ?_ _ _ _ ?_); rotate_left; focus (first | omega | (simp; done) | (simp; omega))) | (with_reducible refine Blk.by (by assumption) ?_))); done))
      have kM : Blk w1 (w.heap.size + 1) #[.slice am names.length cm, .slice an zs.length cn] 30 := (by ((repeat (first | (with_reducible assumption) | (with_reducible refine Blk.drewN ?_ _) | (with_reducible refine Blk.drew ?_) | ((with_reducible refine Blk.new _ ?_); focus (first | omega | (simp; done) | (simp; omega))) | (with_reducible refine Blk.past ?_ _) | ((with_reducible refine Blk.apart ?_ _ _ _ ?_); rotate_left; focus (first | omega | (simp; done) | (simp; omega))) | (with_reducible refine Blk.by (by assumption) ?_))); done))
      have kR : Blk w1 (w.heap.size + 1 + 1) #[.int .i64 0, .slice none 0 0, .slice none 0 0] 27 := (by ((repeat (first | (with_reducible assumption) | (with_reducible refine Blk.drewN ?_ _) | (with_reducible refine Blk.drew ?_) | ((with_reducible refine Blk.new _ ?_); focus (first | omega | (simp; done) | (simp; omega))) | (with_reducible refine Blk.past ?_ _) | ((with_reducible refine Blk.apart ?_ _ _ _ ?_); rotate_left; focus (first | omega | (simp; done) | (simp; omega))) | (with_reducible refine Blk.by (by assumption) ?_))); done))
      have hW : Below w.heap.size w w1 := (by ((repeat (first | (with_reducible exact Below.refl _ _) | (with_reducible refine below_drewN ?_ _) | (with_reducible refine Below.drew ?_) | (with_reducible refine below_al ?_ _) | (with_reducible refine below_on (by assumption) ?_) | ((with_reducible refine Below.setCell ?_ ?_ _); rotate_left; focus (first | omega | (simp; done) | (simp; omega))) | (with_reducible assumption))); done))
      have qA := kA.cell
      have qM := kM.cell
      have lA := kA.lt
      have lM := kM.lt
      clear hb1
      go_wp2_with fail
      refine (HO1.out _ (HS.out.by hW)).mono ?_
      rintro e w2 ⟨rfl, hb2⟩
      replace kA := Blk.by hb2 kA
      replace kM := Blk.by hb2 kM
      replace kR := Blk.by hb2 kR
      replace hW := below_on hb2 hW
      clear hb2 qA qM lA lM
      have qA := kA.cell
      have qM := kM.cell
      have lA := kA.lt
      have lM := kM.lt
      have qR := kR.cell
      have fR := kR.free
      have lR := kR.lt
      go_wp2
      exact bodyPost_ret (v := .tuple #[.agg #[.int .i64 0, .slice none 0 0, .slice none 0 0], .int .i64 2]) (by simp [results, Tryz.results7, go_sem, *]) rfl ⟨_, rfl, nlZeroX _ _ _ (by simp; omega), (by ((repeat (first | (with_reducible exact Below.refl _ _) | (with_reducible refine below_drewN ?_ _) | (with_reducible refine Below.drew ?_) | (with_reducible refine below_al ?_ _) | (with_reducible refine below_on (by assumption) ?_) | ((with_reducible refine Below.setCell ?_ ?_ _); rotate_left; focus (first | omega | (simp; done) | (simp; omega))) | (with_reducible assumption))); done))⟩
    | true =>
      cases p2 with
      | false =>
        simp only [Bool.false_eq_true, and_false, if_false] at hrc hrr
        subst hrc hrr
        clear h hm1 hm2 hok hnn hp1 hp2 hb hnet hdv
        go_enter Tryz.func7, Tryz.ntmps7
        go_wp2_with fail
        refine (HV.out _ _ (HN.out.by (by ((repeat (first | (with_reducible exact Below.refl _ _) | (with_reducible refine below_drewN ?_ _) | (with_reducible refine Below.drew ?_) | (with_reducible refine below_al ?_ _) | (with_reducible refine below_on (by assumption) ?_) | ((with_reducible refine Below.setCell ?_ ?_ _); rotate_left; focus (first | omega | (simp; done) | (simp; omega))) | (with_reducible assumption))); done)))).mono ?_
        rintro e w1 ⟨rfl, hb1⟩
        have kA : Blk w1 w.heap.size #[.int .i64 (m : Int), .slice a ds.length c, .slice a' ps.length c'] 27 := (by ((repeat (first | (with_reducible assumption) | (with_reducible refine Blk.drewN ?_ _) | (with_reducible refine Blk.drew ?_) | ((with_reducible refine Blk.new _ ?_); focus (first | omega | (simp; done) | (simp; omega))) | (with_reducible refine Blk.past ?_ _) | ((with_reducible refine Blk.apart ?_ _ _ _ ?_); rotate_left; focus (first | omega | (simp; done) | (simp; omega))) | (with_reducible refine Blk.by (by assumption) ?_))); done))
        have kM : Blk w1 (w.heap.size + 1) #[.slice am names.length cm, .slice an zs.length cn] 30 := (by ((repeat (first | (with_reducible assumption) | (with_reducible refine Blk.drewN ?_ _) | (with_reducible refine Blk.drew ?_) | ((with_reducible refine Blk.new _ ?_); focus (first | omega | (simp; done) | (simp; omega))) | (with_reducible refine Blk.past ?_ _) | ((with_reducible refine Blk.apart ?_ _ _ _ ?_); rotate_left; focus (first | omega | (simp; done) | (simp; omega))) | (with_reducible refine Blk.by (by assumption) ?_))); done))
        have kR : Blk w1 (w.heap.size + 1 + 1) #[.int .i64 0, .slice none 0 0, .slice none 0 0] 27 := (by ((repeat (first | (with_reducible assumption) | (with_reducible refine Blk.drewN ?_ _) | (with_reducible refine Blk.drew ?_) | ((with_reducible refine Blk.new _ ?_); focus (first | omega | (simp; done) | (simp; omega))) | (with_reducible refine Blk.past ?_ _) | ((with_reducible refine Blk.apart ?_ _ _ _ ?_); rotate_left; focus (first | omega | (simp; done) | (simp; omega))) | (with_reducible refine Blk.by (by assumption) ?_))); done))
        have hW : Below w.heap.size w w1 := (by ((repeat (first | (with_reducible exact Below.refl _ _) | (with_reducible refine below_drewN ?_ _) | (with_reducible refine Below.drew ?_) | (with_reducible refine below_al ?_ _) | (with_reducible refine below_on (by assumption) ?_) | ((with_reducible refine Below.setCell ?_ ?_ _); rotate_left; focus (first | omega | (simp; done) | (simp; omega))) | (with_reducible assumption))); done))
        have qA := kA.cell
        have qM := kM.cell
        have lA := kA.lt
        have lM := kM.lt
        clear hb1
        go_wp2_with fail
        refine (HO1.out _ (HS.out.by hW)).mono ?_
        rintro e w2 ⟨rfl, hb2⟩
        replace kA := Blk.by hb2 kA
        replace kM := Blk.by hb2 kM
        replace kR := Blk.by hb2 kR
        replace hW := below_on hb2 hW
        clear hb2 qA qM lA lM
        have qA := kA.cell
        have qM := kM.cell
        have lA := kA.lt
        have lM := kM.lt
        go_wp2_with fail
        refine (HO2.out _ (HZ.out.by hW)).mono ?_
        rintro e w3 ⟨rfl, hb3⟩
        replace kA := Blk.by hb3 kA
        replace kM := Blk.by hb3 kM
        replace kR := Blk.by hb3 kR
        replace hW := below_on hb3 hW
        clear hb3 qA qM lA lM
        have qA := kA.cell
        have qM := kM.cell
        have lA := kA.lt
        have lM := kM.lt
        have qR := kR.cell
        have fR := kR.free
        have lR := kR.lt
        go_wp2
        exact bodyPost_ret (v := .tuple #[.agg #[.int .i64 0, .slice none 0 0, .slice none 0 0], .int .i64 2]) (by simp [results, Tryz.results7, go_sem, *]) rfl ⟨_, rfl, nlZeroX _ _ _ (by simp; omega), (by ((repeat (first | (with_reducible exact Below.refl _ _) | (with_reducible refine below_drewN ?_ _) | (with_reducible refine Below.drew ?_) | (with_reducible refine below_al ?_ _) | (with_reducible refine below_on (by assumption) ?_) | ((with_reducible refine Below.setCell ?_ ?_ _); rotate_left; focus (first | omega | (simp; done) | (simp; omega))) | (with_reducible assumption))); done))⟩
      | true =>
        simp only [and_self, if_true] at hrc hrr
        have hlen : (names.length : Int) = m := (permB_iff.1 hp1).1
        have hzl : zs.length = ds.length := by have := (permB_iff.1 hp2).1; omega
        have HZL := Lib.hid hzl
        have HR := Lib.hid (fun v w h h' => implRen_any ⟨(m : Int), ds, ps⟩ names (.slice am names.length cm) (m : Int) v w h h' (by dsimp only; omega) (by dsimp only; omega) (fun d hd => by have q := dvB_pins (hdv d hd); exact ⟨q.1, fun e => by rw [e] at q; simp at q, fun z hz => by have := q.2.2 z hz; omega⟩) (fun p hp => by have := hnet p hp; omega))
        have HSH := Lib.hid (show ∀ d ∈ ds, Shp d from fun d hd => shp_of (hdv d hd))
        have HP2 := Lib.hid hp2
        subst hrc
        subst hrr
        obtain ⟨RD, hRD⟩ : ∃ r, ds.map (renD names) = r := ⟨_, rfl⟩
        obtain ⟨RP, hRP⟩ : ∃ r, ps.map (renP names) = r := ⟨_, rfl⟩
        rw [hRD, hRP]
        have HRD := Lib.hid hRD
        have HRP := Lib.hid hRP
        have HCP := Lib.hid (fun v w h => copyNetlist_any (renS ⟨(m : Int), ds, ps⟩ names m) v w h (by simp [renS]; omega) (by simp [renS]; omega) (fun d hd => by
          simp only [renS] at hd
          obtain ⟨e, he, rfl⟩ := List.mem_map.1 hd
          have q := dvB_pins (hdv e he)
          exact ⟨by simp [renD]; omega, fun e' => by simp [renD] at e'; rw [e'] at q; simp at q⟩))
        clear h hm1 hm2 hok hnn hp1 hb hnet hdv hlen hp2 hzl hRD hRP
        go_enter Tryz.func7, Tryz.ntmps7
        go_wp2_with fail
        refine (HV.out _ _ (HN.out.by (by ((repeat (first | (with_reducible exact Below.refl _ _) | (with_reducible refine below_drewN ?_ _) | (with_reducible refine Below.drew ?_) | (with_reducible refine below_al ?_ _) | (with_reducible refine below_on (by assumption) ?_) | ((with_reducible refine Below.setCell ?_ ?_ _); rotate_left; focus (first | omega | (simp; done) | (simp; omega))) | (with_reducible assumption))); done)))).mono ?_
        rintro e w1 ⟨rfl, hb1⟩
        have kA : Blk w1 w.heap.size #[.int .i64 (m : Int), .slice a ds.length c, .slice a' ps.length c'] 27 := (by ((repeat (first | (with_reducible assumption) | (with_reducible refine Blk.drewN ?_ _) | (with_reducible refine Blk.drew ?_) | ((with_reducible refine Blk.new _ ?_); focus (first | omega | (simp; done) | (simp; omega))) | (with_reducible refine Blk.past ?_ _) | ((with_reducible refine Blk.apart ?_ _ _ _ ?_); rotate_left; focus (first | omega | (simp; done) | (simp; omega))) | (with_reducible refine Blk.by (by assumption) ?_))); done))
        have kM : Blk w1 (w.heap.size + 1) #[.slice am names.length cm, .slice an zs.length cn] 30 := (by ((repeat (first | (with_reducible assumption) | (with_reducible refine Blk.drewN ?_ _) | (with_reducible refine Blk.drew ?_) | ((with_reducible refine Blk.new _ ?_); focus (first | omega | (simp; done) | (simp; omega))) | (with_reducible refine Blk.past ?_ _) | ((with_reducible refine Blk.apart ?_ _ _ _ ?_); rotate_left; focus (first | omega | (simp; done) | (simp; omega))) | (with_reducible refine Blk.by (by assumption) ?_))); done))
        have kR : Blk w1 (w.heap.size + 1 + 1) #[.int .i64 0, .slice none 0 0, .slice none 0 0] 27 := (by ((repeat (first | (with_reducible assumption) | (with_reducible refine Blk.drewN ?_ _) | (with_reducible refine Blk.drew ?_) | ((with_reducible refine Blk.new _ ?_); focus (first | omega | (simp; done) | (simp; omega))) | (with_reducible refine Blk.past ?_ _) | ((with_reducible refine Blk.apart ?_ _ _ _ ?_); rotate_left; focus (first | omega | (simp; done) | (simp; omega))) | (with_reducible refine Blk.by (by assumption) ?_))); done))
        have hW : Below w.heap.size w w1 := (by ((repeat (first | (with_reducible exact Below.refl _ _) | (with_reducible refine below_drewN ?_ _) | (with_reducible refine Below.drew ?_) | (with_reducible refine below_al ?_ _) | (with_reducible refine below_on (by assumption) ?_) | ((with_reducible refine Below.setCell ?_ ?_ _); rotate_left; focus (first | omega | (simp; done) | (simp; omega))) | (with_reducible assumption))); done))
        have qA := kA.cell
        have qM := kM.cell
        have lA := kA.lt
        have lM := kM.lt
        clear hb1
        go_wp2_with fail
        refine (HO1.out _ (HS.out.by hW)).mono ?_
        rintro e w2 ⟨rfl, hb2⟩
        replace kA := Blk.by hb2 kA
        replace kM := Blk.by hb2 kM
        replace kR := Blk.by hb2 kR
        replace hW := below_on hb2 hW
        clear hb2 qA qM lA lM
        have qA := kA.cell
        have qM := kM.cell
        have lA := kA.lt
        have lM := kM.lt
        go_wp2_with fail
        refine (HO2.out _ (HZ.out.by hW)).mono ?_
        rintro e w3 ⟨rfl, hb3⟩
        replace kA := Blk.by hb3 kA
        replace kM := Blk.by hb3 kM
        replace kR := Blk.by hb3 kR
        replace hW := below_on hb3 hW
        clear hb3 qA qM lA lM
        have qA := kA.cell
        have qM := kM.cell
        have lA := kA.lt
        have lM := kM.lt
        go_wp2_with fail
        refine (HR.out _ _ (HN.out.by hW) (HS.out.by hW)).mono ?_
        rintro e w4 ⟨v4, rfl, hO, hb4⟩
        have hlo := kR.lt
        have hs43 := hb4.size
        replace kA := Blk.by hb4 kA
        replace kM := Blk.by hb4 kM
        replace kR := Blk.by hb4 kR
        replace hW := below_on hb4 hW
        clear hb4 qA qM lA lM
        have qA := kA.cell
        have qM := kM.cell
        have lA := kA.lt
        have lM := kM.lt
        obtain ⟨s1, s2, lo1, hi1, lo2, hi2, rfl, hOD, hOP, hi1', hi2', hap⟩ := hO
        simp only [renS, HRD.out, HRP.out] at hOD hOP
        obtain ⟨f, pv, hAT, hinj⟩ := hOD.at
        obtain ⟨a1, c1, rfl⟩ := hOD.sl.sized
        obtain ⟨a2, c2, rfl⟩ := hOP.sl.sized
        have hN4 : NlV w4 (.agg #[.int .i64 (m : Int), .slice a1 RD.length c1, .slice a2 RP.length c2]) ⟨(m : Int), RD, RP⟩ := ⟨_, _, rfl, hOD.sl, hOP.sl⟩
        have HN4 := Lib.hid hN4
        have HCP := Lib.hid (fun w h => HCP.out (.agg #[.int .i64 (m : Int), .slice a1 RD.length c1, .slice a2 RP.length c2]) w h)
        simp only [renS, HRD.out, HRP.out] at HCP
        have hrl : RD.length = ds.length := by rw [← HRD.out, List.length_map]
        have HAT := Lib.hid hAT
        have HINJ := Lib.hid hinj
        have HFR := Lib.hid (show ∀ (i : Nat) x, RD[i]? = some x → lo1 ≤ f i ∧ f i < hi1 from fun i x hx => (hAT i x hx).2.2)
        have HP2R := Lib.hid (show permB zs (RD.length : Int) = true by rw [hrl]; exact HP2.out)
        have HZR := Lib.hid (show zs.length = RD.length by rw [hrl]; exact HZL.out)
        have hk4 := kR.lt
        have hd24' : RD.length ≤ 24 := by omega
        obtain ⟨X, hX⟩ : ∃ X, w4.heap.size = X := ⟨_, rfl⟩
        rw [hX] at hi1' hi2' hk4
        have h3X : w3.heap.size ≤ X := by omega
        have HX := Lib.hid hX
        clear hOD hOP hAT hinj hX hrl hN4
        go_wp2_with fail
        have hal : Below w4.heap.size w4 (w4.alloc (.cells #[.int .i64 (m : Int), .slice a1 RD.length c1, .slice a2 RP.length c2] 27)) := (Below.refl _ w4).alloc (Nat.le_refl _) _
        refine (HCP.out _ (HN4.out.by hal)).mono ?_
        rintro e w5 ⟨v5, rfl, hO, hb5⟩
        rw [HX.out]
        obtain ⟨s3, s4, lo3, hi3, lo4, hi4, rfl, hOD3, hOP4, hi3', hi4', hap3⟩ := hO
        simp only [World.size_alloc, HX.out] at hi3' hi4'
        obtain ⟨a3, c3, rfl⟩ := hOD3.sl.sized
        obtain ⟨a4, c4, rfl⟩ := hOP4.sl.sized
        dsimp only at hOD3 hOP4
        obtain ⟨P, hPP, hPr⟩ := hOP4.pick w.heap.size
        have HPP := Lib.hid hPP
        have kX : Blk w5 X #[.int .i64 (m : Int), .slice a1 RD.length c1, .slice a2 RP.length c2] 27 := Blk.by hb5 (Blk.new _ HX.out.symm)
        replace kR := Blk.by hb5 (Blk.by hal kR)
        replace kM := Blk.by hb5 (Blk.by hal kM)
        replace HAT := Lib.hid ((HAT.out.by hal).by hb5)
        replace hW := below_on hb5 (hW.trans (hal.mono (by have := HX.out; omega)))
        have HZB := Lib.hid HZ.out
        have hsz5 := hb5.size
        simp only [World.size_alloc, HX.out] at hsz5
        clear hOP4 hPP hb5 hal kA qA qM lA lM HN HS HR HV HO1 HO2 HX HCP HN4
        have qX := kX.cell
        obtain ⟨Y, hY⟩ : ∃ Y, w5.heap.size = Y := ⟨_, rfl⟩
        rw [hY] at hi3' hi4' hsz5
        have hXY : X < Y := by omega
        have hRY : w.heap.size + 1 + 1 < X := hk4
        rcases Nat.eq_zero_or_pos RD.length with hz0 | hz0
        · obtain rfl : RD = [] := List.eq_nil_of_length_eq_zero hz0
          have hz00 : zs.length = 0 := HZR.out
          obtain rfl : zs = [] := List.eq_nil_of_length_eq_zero hz00
          have hPR : P ≠ w.heap.size + 1 + 1 := by omega
          have hPY : P < Y := by omega
          have hPw : w.heap.size ≤ P := by omega
          clear hz0 hz00 hOD3 kM
          go_wp2
          obtain ⟨wA, hwA⟩ : ∃ wA, wA = w5.alloc (.cells #[.int .i64 (m : Int), .slice a3 0 c3, .slice a4 RP.length c4] 27) := ⟨_, rfl⟩
          have hal : Below w5.heap.size w5 wA := by rw [hwA]; exact (Below.refl _ w5).alloc (Nat.le_refl _) _
          have kY : Blk wA Y #[.int .i64 (m : Int), .slice a3 0 c3, .slice a4 RP.length c4] 27 := by rw [hwA]; exact Blk.new _ hY.symm
          have kRA := Blk.by hal kR
          have HPPA := Lib.hid (HPP.out.by hal)
          have hWA := below_on hal hW
          rw [← hwA]; (try rw [hY])
          clear hwA hal kX kR HAT HPP hW qX hY
          go_loopw [43] (fun i wr => i = .int .i64 0 ∧ wr = wA) (fun _ _ => 0)
          case atStart => exact ⟨rfl, rfl⟩
          case round =>
            obtain ⟨rfl, rfl⟩ := hrel
            have qY := kY.cell
            have lY := kY.lt
            have qR := kRA.cell
            have fR := kRA.free
            have lR := kRA.lt
            go_wp2
            refine bodyPost_ret (v := .tuple #[.agg #[.int .i64 (m : Int), .slice a3 0 c3, .slice a4 RP.length c4], .int .i64 0]) (by simp [results, Tryz.results7, go_sem, *]) rfl ⟨_, rfl, ⟨_, _, P, rfl, .inl ⟨_, _, rfl, by simp [ordD, invS, invTo]⟩, ?_, ⟨by omega, by simp; omega⟩⟩, (by ((repeat (first | (with_reducible exact Below.refl _ _) | (with_reducible refine below_drewN ?_ _) | (with_reducible refine Below.drew ?_) | (with_reducible refine below_al ?_ _) | (with_reducible refine below_on (by assumption) ?_) | ((with_reducible refine Below.setCell ?_ ?_ _); rotate_left; focus (first | omega | (simp; done) | (simp; omega))) | (with_reducible assumption))); done))⟩
            exact ((HPPA.out.past (Within.off _) (by omega)).past (Within.off _) (by omega)).past (Within.off _) (by omega)
        · obtain ⟨gO, hgO, csz, hO0, hOw⟩ : ∃ gO, (lo3 ≤ gO ∧ gO < hi3) ∧ ∃ cs0 : Array Value, (a3 = some ⟨gO, 0, none⟩ ∧ RD.length ≤ c3 ∧ c3 ≤ maxLen ∧ RD.length * 4 ≤ cs0.size) ∧ Blk w5 gO cs0 56 := by
            rcases hOD3 with ⟨_, _, _, e⟩ | ⟨g, cap, cs, f, e1, e2, e3, e4, e5, e6, e7⟩
            · rw [e] at hz0; simp at hz0
            · obtain ⟨rfl, rfl⟩ : a3 = some ⟨g, 0, none⟩ ∧ c3 = cap := by simpa using e1
              refine ⟨g, e2, cs, ⟨rfl, e3, e4, ?_⟩, e5⟩
              have hl : RD.length - 1 < RD.length := by omega
              obtain ⟨⟨pv', ⟨_, _, _, hc⟩, _⟩, _⟩ := e6 (RD.length - 1) _ (List.getElem?_eq_getElem hl)
              have := (Array.getElem?_eq_some_iff.1 hc).1
              omega
          obtain ⟨rfl, hcap, hmax, hcz⟩ := hO0
          have hgP : gO ≠ P := by omega
          have hPR : P ≠ w.heap.size + 1 + 1 := by omega
          have hPY : P < Y := by omega
          have hPw : w.heap.size ≤ P := by omega
          clear hOD3
          go_wp2
          obtain ⟨wA, hwA⟩ : ∃ wA, wA = w5.alloc (.cells #[.int .i64 (m : Int), .slice (some ⟨gO, 0, none⟩) RD.length c3, .slice a4 RP.length c4] 27) := ⟨_, rfl⟩
          have hal : Below w5.heap.size w5 wA := by rw [hwA]; exact (Below.refl _ w5).alloc (Nat.le_refl _) _
          have kY : Blk wA Y #[.int .i64 (m : Int), .slice (some ⟨gO, 0, none⟩) RD.length c3, .slice a4 RP.length c4] 27 := by rw [hwA]; exact Blk.new _ hY.symm
          have kXA := Blk.by hal kX
          have kRA := Blk.by hal kR
          have kMA := Blk.by hal kM
          have kOA := Blk.by hal hOw
          have HATA := Lib.hid (HAT.out.by hal)
          have HPPA := Lib.hid (HPP.out.by hal)
          have hWA := below_on hal hW
          rw [← hwA]; (try rw [hY])
          clear hwA hal kX kR kM hOw HAT HPP hW qX hY
          go_loopw [43] (fun i wr => ∃ k : Nat, k ≤ RD.length ∧ i = .int .i64 k ∧ Blk wr X #[.int .i64 (m : Int), .slice a1 RD.length c1, .slice a2 RP.length c2] 27 ∧ Blk wr Y #[.int .i64 (m : Int), .slice (some ⟨gO, 0, none⟩) RD.length c3, .slice a4 RP.length c4] 27 ∧ Blk wr (w.heap.size + 1) #[.slice am names.length cm, .slice an zs.length cn] 30 ∧ Blk wr (w.heap.size + 1 + 1) #[.int .i64 0, .slice none 0 0, .slice none 0 0] 27 ∧
            (∃ cs : Array Value, Blk wr gO cs 56 ∧ cs.size = csz.size ∧ Hid (∀ (i : Nat) (z : Int) (x : Dv), i < k → zs[i]? = some z → RD[i]? = some x → Cs4 cs z.toNat (.int .i64 x.kind) (pv i) (.int .i64 x.wd) (.int .i64 x.len))) ∧
            Hid (DsAt wr lo1 hi1 (.slice a1 RD.length c1) RD f pv) ∧ Hid (OwnPs wr P (P + 1) (.slice a4 RP.length c4) RP) ∧ Below w.heap.size w wr) (fun i _ => RD.length - (intOf i).toNat)
          case atStart => exact ⟨0, Nat.zero_le _, rfl, kXA, kY, kMA, kRA, ⟨csz, kOA, rfl, Lib.hid (fun i z x h => by omega)⟩, HATA, HPPA, hWA⟩
          case round =>
            clear kXA kY kRA kMA kOA HATA HPPA hWA
            obtain ⟨k, hk, rfl, kX, kY, kM, kR, ⟨cs, kO, hsz, HC⟩, HAT, HPP, hb⟩ := hrel
            by_cases hlt : k < RD.length
            · obtain ⟨d, hd⟩ : ∃ d, RD[k]? = some d := ⟨RD[k], List.getElem?_eq_getElem hlt⟩
              obtain ⟨⟨g, cap, ct, hsv, hg, kG, d0, d1, d2, d3⟩, hOR, hf⟩ := HAT.out k d hd
              obtain ⟨rfl, rfl⟩ : a1 = some ⟨g, 0, none⟩ ∧ c1 = cap := by simpa using hsv
              obtain ⟨z, hz⟩ : ∃ z, zs[k]? = some z := ⟨zs[k]'(by rw [HZR.out]; exact hlt), List.getElem?_eq_getElem _⟩
              obtain ⟨hz1, hz2⟩ := (permB_iff.1 HP2R.out).2.2 z (List.mem_of_getElem? hz)
              obtain ⟨q, rfl⟩ : ∃ q : Nat, z = q := ⟨z.toNat, by omega⟩
              rcases HZB.out.by hb with ⟨_, _, _, e4⟩ | ⟨zb, zo, zcap, hze, _, _, hzc⟩
              · rw [e4] at hz; simp at hz
              obtain ⟨rfl, rfl⟩ : an = some ⟨zb, zo, none⟩ ∧ cn = zcap := by simpa using hze
              have e5 := hzc k q hz
              have hq4 : q * 4 + 3 < cs.size := by omega
              obtain ⟨u0, t0⟩ : ∃ u, cs[q * 4]? = some u := ⟨_, Array.getElem?_eq_getElem (by omega)⟩
              obtain ⟨u1, t1⟩ : ∃ u, cs[q * 4 + 1]? = some u := ⟨_, Array.getElem?_eq_getElem (by omega)⟩
              obtain ⟨u2, t2⟩ : ∃ u, cs[q * 4 + 2]? = some u := ⟨_, Array.getElem?_eq_getElem (by omega)⟩
              obtain ⟨u3, t3⟩ : ∃ u, cs[q * 4 + 3]? = some u := ⟨_, Array.getElem?_eq_getElem (by omega)⟩
              have i1 : (0 : Int) ≤ (k : Int) := by omega
              have i2 : (k : Int) < (RD.length : Int) := by omega
              have i2' : (k : Int) < (zs.length : Int) := by have := HZR.out; omega
              have i3 : (0 : Int) ≤ (q : Int) := by omega
              have i4 : (q : Int) < (RD.length : Int) := by omega
              have HD := Lib.hid hd
              have HZK := Lib.hid hz
              have HSZ := Lib.hid hsz
              have HQ := Lib.hid hq4
              obtain ⟨ap, cp, hpv⟩ := hOR.sl.len
              rw [hpv] at d1
              have HPV := Lib.hid hpv
              have qG := kG.cell
              have qY := kY.cell
              have qM := kM.cell
              have qO := kO.cell
              have fO := kO.free
              have lO := kO.lt
              have lY := kY.lt
              have lM := kM.lt
              have lR := kR.lt
              have lX := kX.lt
              have lG := kG.lt
              have lz := lt_of_cell e5
              dsimp only at lz
              clear hd hz hsv hze hzc hOR hsz hq4 hpv
              go_wp2_with fail
              go_region
              all_goals go_wp2_with fail
              have hWi : Within gO (gO + 1) wr ((((wr.setCell ⟨gO, q * 4, none⟩ (.int .i64 d.kind)).setCell ⟨gO, q * 4 + 1, none⟩ (.slice ap d.pins.length cp)).setCell ⟨gO, q * 4 + 2, none⟩ (.int .i64 d.wd)).setCell ⟨gO, q * 4 + 3, none⟩ (.int .i64 d.len)) := ((((Within.refl gO (gO + 1) wr).set gO _ _ (Nat.le_refl _) (by omega)).set gO _ _ (Nat.le_refl _) (by omega)).set gO _ _ (Nat.le_refl _) (by omega)).set gO _ _ (Nat.le_refl _) (by omega)
              have kO4 : Blk ((((wr.setCell ⟨gO, q * 4, none⟩ (.int .i64 d.kind)).setCell ⟨gO, q * 4 + 1, none⟩ (.slice ap d.pins.length cp)).setCell ⟨gO, q * 4 + 2, none⟩ (.int .i64 d.wd)).setCell ⟨gO, q * 4 + 3, none⟩ (.int .i64 d.len)) gO (putA4 cs q (.int .i64 d.kind) (.slice ap d.pins.length cp) (.int .i64 d.wd) (.int .i64 d.len)) 56 := (((kO.set _ _).set _ _).set _ _).set _ _
              generalize (((wr.setCell ⟨gO, q * 4, none⟩ (.int .i64 d.kind)).setCell ⟨gO, q * 4 + 1, none⟩ (.slice ap d.pins.length cp)).setCell ⟨gO, q * 4 + 2, none⟩ (.int .i64 d.wd)).setCell ⟨gO, q * 4 + 3, none⟩ (.int .i64 d.len) = wS at *
              have hbS : Below wS.heap.size wS (wS.alloc (.cells #[.int .i64 d.kind, .slice ap d.pins.length cp, .int .i64 d.wd, .int .i64 d.len] 56)).drew := ((Below.refl _ _).alloc (Nat.le_refl _) _).drew
              have hbW := hWi.below hb (by omega)
              refine ⟨⟨k + 1, by omega, by go_num, Blk.by hbS (hWi.blk kX (by omega)), Blk.by hbS (hWi.blk kY (by omega)), Blk.by hbS (hWi.blk kM (by omega)), Blk.by hbS (hWi.blk kR (by omega)), ⟨_, Blk.by hbS kO4, by rw [size_putA4]; exact HSZ.out, Lib.hid (fun i z x hik hz hx => ?_)⟩, Lib.hid ((HAT.out.past hWi (by omega)).by hbS), Lib.hid ((HPP.out.past hWi (by omega)).by hbS), hbW.trans (hbS.mono (by have := hbW.size; omega))⟩, by simp [intOf]; omega⟩
              by_cases e : i = k
              · subst e
                rw [HZK.out] at hz
                rw [HD.out] at hx
                cases hz
                cases hx
                rw [HPV.out, Int.toNat_natCast]
                exact putA4_same _ _ _ _ HQ.out
              · refine putA4_other _ _ _ _ (fun e' => ?_) (HC.out i z x (by omega) hz hx)
                have hz0 := (permB_iff.1 HP2R.out).2.2 z (List.mem_of_getElem? hz)
                obtain rfl : z = q := by omega
                have := permB_dup (n := (RD.length : Int)) (show i < k by omega) hz HZK.out
                rw [HP2R.out] at this
                cases this
            · obtain rfl : k = RD.length := by omega
              have hXD : OwnDsX wr w3.heap.size Y P (.slice (some ⟨gO, 0, none⟩) RD.length c3) (ordD zs RD) := by
                refine .inr ⟨gO, c3, cs, fun i => f ((invS zs).getD i 0).toNat, by rw [length_ordD, HZR.out], ⟨⟨by omega, by omega⟩, hgP⟩, by rw [length_ordD, HZR.out]; exact hcap, hmax, kO, fun i x hx => ?_, fun i i' hi1 hi2 hne' => ?_⟩
                · obtain ⟨j, q1, q2, q3⟩ := ordD_inv HP2R.out i x hx
                  have hin : (invS zs).getD i 0 = (j : Int) := by simp [List.getD_eq_getElem?_getD, q1]
                  have hC4 := HC.out j i x (List.getElem?_eq_some_iff.1 q3).1 q2 q3
                  rw [Int.toNat_natCast] at hC4
                  obtain ⟨_, hOR, hf⟩ := HAT.out j x q3
                  (try dsimp only)
                  rw [hin, Int.toNat_natCast]
                  exact ⟨⟨pv j, hC4, hOR⟩, by omega, by omega, by omega, by omega⟩
                · rw [length_ordD] at hi1 hi2
                  obtain ⟨x1, hx1⟩ : ∃ x1, (ordD zs RD)[i]? = some x1 := ⟨(ordD zs RD)[i]'(by rw [length_ordD]; exact hi1), List.getElem?_eq_getElem _⟩
                  obtain ⟨x2, hx2⟩ : ∃ x2, (ordD zs RD)[i']? = some x2 := ⟨(ordD zs RD)[i']'(by rw [length_ordD]; exact hi2), List.getElem?_eq_getElem _⟩
                  obtain ⟨j1, q1, q2, q3⟩ := ordD_inv HP2R.out i x1 hx1
                  obtain ⟨j2, r1, r2, r3⟩ := ordD_inv HP2R.out i' x2 hx2
                  have e1 : (invS zs).getD i 0 = (j1 : Int) := by simp [List.getD_eq_getElem?_getD, q1]
                  have e2 : (invS zs).getD i' 0 = (j2 : Int) := by simp [List.getD_eq_getElem?_getD, r1]
                  (try dsimp only)
                  rw [e1, e2, Int.toNat_natCast, Int.toNat_natCast]
                  refine HINJ.out j1 j2 (List.getElem?_eq_some_iff.1 q3).1 (List.getElem?_eq_some_iff.1 r3).1 (fun e => hne' ?_)
                  subst e
                  exact invS_inj HP2R.out i i' _ q1 r1
              have HXD := Lib.hid hXD
              have qY := kY.cell
              have lY := kY.lt
              have qR := kR.cell
              have fR := kR.free
              have lR := kR.lt
              clear hXD
              go_wp2
              refine bodyPost_ret (v := .tuple #[.agg #[.int .i64 (m : Int), .slice (some ⟨gO, 0, none⟩) RD.length c3, .slice a4 RP.length c4], .int .i64 0]) (by simp [results, Tryz.results7, go_sem, *]) rfl ⟨_, rfl, ⟨_, _, P, rfl, ?_, ?_, ⟨by omega, by simp; omega⟩⟩, (by ((repeat (first | (with_reducible exact Below.refl _ _) | (with_reducible refine below_drewN ?_ _) | (with_reducible refine Below.drew ?_) | (with_reducible refine below_al ?_ _) | (with_reducible refine below_on (by assumption) ?_) | ((with_reducible refine Below.setCell ?_ ?_ _); rotate_left; focus (first | omega | (simp; done) | (simp; omega))) | (with_reducible assumption))); done))⟩
              · refine OwnDsX.wide (lo := w3.heap.size) (hi := Y) ?_ (by omega) (by simp; omega)
                exact ((HXD.out.past (Within.off _) (by omega)).past (Within.off _) (by omega)).past (Within.off _) (by omega)
              · exact ((HPP.out.past (Within.off _) (by omega)).past (Within.off _) (by omega)).past (Within.off _) (by omega)
  · rw [if_neg hb] at hrc hrr
    have hbf : nlB x = false := by simpa using hb
    rw [hbf] at HV
    subst hrc hrr
    clear h hm1 hm2 hok hnn hb hbf
    go_enter Tryz.func7, Tryz.ntmps7
    go_wp2_with fail
    refine (HV.out _ _ (HN.out.by (by ((repeat (first | (with_reducible exact Below.refl _ _) | (with_reducible refine below_drewN ?_ _) | (with_reducible refine Below.drew ?_) | (with_reducible refine below_al ?_ _) | (with_reducible refine below_on (by assumption) ?_) | ((with_reducible refine Below.setCell ?_ ?_ _); rotate_left; focus (first | omega | (simp; done) | (simp; omega))) | (with_reducible assumption))); done)))).mono ?_
    rintro e w1 ⟨rfl, hb1⟩
    have kR : Blk w1 (w.heap.size + 1 + 1) #[.int .i64 0, .slice none 0 0, .slice none 0 0] 27 := (by ((repeat (first | (with_reducible assumption) | (with_reducible refine Blk.drewN ?_ _) | (with_reducible refine Blk.drew ?_) | ((with_reducible refine Blk.new _ ?_); focus (first | omega | (simp; done) | (simp; omega))) | (with_reducible refine Blk.past ?_ _) | ((with_reducible refine Blk.apart ?_ _ _ _ ?_); rotate_left; focus (first | omega | (simp; done) | (simp; omega))) | (with_reducible refine Blk.by (by assumption) ?_))); done))
    have hW : Below w.heap.size w w1 := (by ((repeat (first | (with_reducible exact Below.refl _ _) | (with_reducible refine below_drewN ?_ _) | (with_reducible refine Below.drew ?_) | (with_reducible refine below_al ?_ _) | (with_reducible refine below_on (by assumption) ?_) | ((with_reducible refine Below.setCell ?_ ?_ _); rotate_left; focus (first | omega | (simp; done) | (simp; omega))) | (with_reducible assumption))); done))
    have qR := kR.cell
    have fR := kR.free
    have lR := kR.lt
    clear hb1
    go_wp2
    exact bodyPost_ret (v := .tuple #[.agg #[.int .i64 0, .slice none 0 0, .slice none 0 0], .int .i64 1]) (by simp [results, Tryz.results7, go_sem, *]) rfl ⟨_, rfl, nlZeroX _ _ _ (by simp; omega), (by ((repeat (first | (with_reducible exact Below.refl _ _) | (with_reducible refine below_drewN ?_ _) | (with_reducible refine Below.drew ?_) | (with_reducible refine below_al ?_ _) | (with_reducible refine below_on (by assumption) ?_) | ((with_reducible refine Below.setCell ?_ ?_ _); rotate_left; focus (first | omega | (simp; done) | (simp; omega))) | (with_reducible assumption))); done))⟩
end Go.Proofs.YtlkcdelihdkgbaaGreat
