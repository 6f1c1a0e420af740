/- Contracts and plain laws, part 16, for the statement's proof. -/
import Derived.Test.YtifbffianbgeaaaGreatPkChgLaw15
import Derived.BigRegion
import Derived.BigQuiet
import Derived.Deep.DeepCutAuto
import Derived.Deep.CutRange
import Derived.Deep.RegionHeld3
namespace Go.Proofs.YtifbffianbgeaaaGreat
open Go.RowKit
set_option linter.unusedVariables false
theorem perm_sum {a b : List Int} (h : a.Perm b) : a.sum = b.sum := by
  induction h with
  | nil => rfl
  | cons x _ ih => simp only [List.sum_cons, ih]
  | swap x y l => simp only [List.sum_cons]; omega
  | trans _ _ i1 i2 => exact i1.trans i2
theorem sum_set : ∀ (l : List Dv) (k : Nat) (d e : Dv), l[k]? = some d → ((l.set k e).map Dv.wd).sum = (l.map Dv.wd).sum - d.wd + e.wd
  | [], k, d, e, h => by simp at h
  | a :: l, 0, d, e, h => by
    obtain rfl : a = d := by simpa using h
    simp only [List.set_cons_zero, List.map_cons, List.sum_cons]; omega
  | a :: l, k + 1, d, e, h => by
    have := sum_set l k d e (by simpa using h)
    simp only [List.set_cons_succ, List.map_cons, List.sum_cons, this]; omega
theorem sizD_no {ds es : List Dv} (hl : es.length = ds.length) (h : sizD ds es = -1) : (ds.map Dv.wd).sum = (es.map Dv.wd).sum := by
  have hlen : ∀ l : List Dv, (szL l).length = l.length := fun l => by
    unfold szL
    rw [(srtD_perm _).length_eq, List.length_map]
  rcases fstNo_cases (fun i => decide ((szL ds)[i]? = (szL es)[i]?)) ds.length with ⟨_, h2⟩ | ⟨k, _, e, _⟩
  · have e : szL ds = szL es := by
      apply List.ext_getElem?
      intro i
      by_cases hi : i < ds.length
      · exact of_decide_eq_true (h2 i hi)
      · rw [List.getElem?_eq_none (by rw [hlen]; omega), List.getElem?_eq_none (by rw [hlen]; omega)]
    have p := (srtD_eq.1 e).map Dv.wd
    rw [List.map_map, List.map_map] at p
    exact perm_sum p
  · unfold sizD at h
    omega
def widN (y : Nl) (k : Nat) (d : Dv) (t : Int) : Nl := ⟨y.nets, y.ds.set k ⟨d.kind, d.pins, d.wd + t, d.len⟩, y.ps⟩
theorem wid_valid {y : Nl} (hy : nlB y = true) {k : Nat} {d : Dv} {t : Int} (hd : y.ds[k]? = some d) (hk : d.kind ≠ 2) (hw : d.wd ≤ 1000) (h1 : 0 < t) (h2 : t ≤ 3) : nlB (widN y k d t) = true := by
  have hdv := (nlB_facts hy).2.2.2.1
  have h0 := hy
  simp only [nlB, Bool.and_eq_true, decide_eq_true_eq, List.all_eq_true] at h0
  unfold widN
  simp only [nlB, Bool.and_eq_true, decide_eq_true_eq, List.all_eq_true]
  refine ⟨h0.1, by rw [List.length_set]; exact h0.2.1, h0.2.2.1, fun e he => ?_, h0.2.2.2.2⟩
  rcases List.mem_or_eq_of_mem_set he with h | rfl
  · exact hdv e h
  · have h := hdv d (List.mem_of_getElem? hd)
    unfold dvB at h ⊢
    simp only [Bool.and_eq_true] at h ⊢
    refine ⟨h.1, h.2.1, ?_, h.2.2.2.1, h.2.2.2.2.1, ?_⟩
    · have := inB_iff.1 h.2.2.1
      exact inB_iff.2 (by omega)
    · simp [hk]
theorem wid_fin {x y : Nl} {p q : List Int} (H : NlIso x y p q) (hx : nlB x = true) (hy : nlB y = true) {k : Nat} {d : Dv} {t : Int} (hd : y.ds[k]? = some d) (hk : d.kind ≠ 2) (hw : d.wd ≤ 1000) (h1 : 0 < t) (h2 : t ≤ 3)
    (hs : x.nets ≤ 10 ∧ x.ds.length ≤ 10) : cmpC x (widN y k d t) = 5 ∧ (expR x (widN y k d t)).1.1 = 4 ∧ (expR x (widN y k d t)).2 = 0 := by
  have hv := wid_valid hy hd hk hw h1 h2
  have e1 : x.nets = (widN y k d t).nets := H.nets.symm
  have e2 : (widN y k d t).ds.length = x.ds.length := by show (y.ds.set _ _).length = _; rw [List.length_set]; exact H.len
  have e3 : namD x.ps (widN y k d t).ps = -1 := show namD x.ps y.ps = -1 from names_of H
  have e4 : sizD x.ds (widN y k d t).ds ≠ -1 := fun e => by
    have s1 := sizD_no e2 e
    have s2 := sizD_no H.len (sizes_of H hx hy)
    have s3 := sum_set y.ds k d ⟨d.kind, d.pins, d.wd + t, d.len⟩ hd
    have s4 : ((widN y k d t).ds.map Dv.wd).sum = (y.ds.map Dv.wd).sum - d.wd + (d.wd + t) := s3
    omega
  have hb : (nlB x && nlB (widN y k d t)) = true := by rw [hx, hv]; rfl
  have hsm : (smlB x && smlB (widN y k d t)) = true := by
    unfold smlB
    rw [← e1, e2, decide_eq_true hs.1, decide_eq_true hs.2]
    rfl
  have hX := xpl_4 e1 e2.symm e3 e4
  refine ⟨?_, ?_⟩
  · unfold cmpC cmpF mayB
    rw [if_pos hb, if_pos hsm, decide_eq_false e4]
    simp
  · have hE := exp_x hb (by rw [hX]; simp)
    rw [hE, hX]
    exact ⟨rfl, rfl⟩
set_option linter.unusedSimpArgs false
set_option maxRecDepth 100000 in
set_option maxHeartbeats 2000000 in
theorem specApply_any (x : Nl) (y : List Int × List Int) (v u : Value) (w : World) (h : NlV w v x) (hm : MaV w u y) (hok : ∀ p ∈ x.ps, p.ok) (hnn : Fits x.nets) (hl : y.1.length ≤ 1048576) (hl' : y.2.length ≤ 1048576) :
    Calls Tryz.prog 32 #[v, u] w fun e w' => ∃ v', e = .returned (.tuple #[v', .int .i64 (apC x y)]) ∧ OwnNlX w' w.heap.size w'.heap.size v' (apR x y) ∧ Below w.heap.size w w' := by
  have HV := Lib.hid (fun v w h => specNl_any x v w h hok hnn)
  have HN := Lib.hid h
  obtain ⟨s1, s2, rfl, hm1, hm2⟩ := hm
  obtain ⟨names, zs⟩ := y
  dsimp only at hm1 hm2 hl hl'
  have HS := Lib.hid hm1
  have HZ := Lib.hid hm2
  obtain ⟨rc, hrc⟩ : ∃ r, apC x (names, zs) = r := ⟨_, rfl⟩
  obtain ⟨rr, hrr⟩ : ∃ r, apR x (names, zs) = r := ⟨_, rfl⟩
  rw [hrc, hrr]
  unfold apC at hrc
  unfold apR at hrr
  obtain ⟨a, c, a', c', rfl⟩ := h.sized
  obtain ⟨am, cm, rfl⟩ := hm1.len
  obtain ⟨an, cn, rfl⟩ := hm2.len
  by_cases hb : nlB x = true
  · obtain ⟨⟨hn0, hn1⟩, hd24, hp8, hdv, _⟩ := nlB_facts hb
    have hnet := nl_netsX hb
    obtain ⟨nets, ds, ps⟩ := x
    dsimp only at *
    obtain ⟨m, rfl⟩ : ∃ m : Nat, nets = m := ⟨nets.toNat, by omega⟩
    rw [hb] at HV
    rw [if_pos hb] at hrc hrr
    have HO1 := Lib.hid (fun w h => specPerm_any (.slice am names.length cm) names m w h hl (by omega))
    have HO2 := Lib.hid (fun w h => specPerm_any (.slice an zs.length cn) zs ds.length w h hl' (by omega))
    obtain ⟨p1, hp1⟩ : ∃ p, permB names (m : Int) = p := ⟨_, rfl⟩
    obtain ⟨p2, hp2⟩ : ∃ p, permB zs (ds.length : Int) = p := ⟨_, rfl⟩
    rw [hp1] at HO1 hrc hrr
    rw [hp2] at HO2 hrc hrr
    cases p1 with
    | false =>
      simp only [Bool.false_eq_true, false_and, if_false] at hrc hrr
      subst hrc hrr
      clear h hm1 hm2 hok hnn hp1 hp2 hb hnet hdv HO2
      go_enter Tryz.func32, Tryz.ntmps32
      go_wp2_with fail
      refine (HV.out _ _ (HN.out.by blwT)).mono ?_
      rintro e w1 ⟨rfl, hb1⟩
      have kA : Blk w1 w.heap.size #[.int .i64 (m : Int), .slice a ds.length c, .slice a' ps.length c'] 35 := blkT
      have kM : Blk w1 (w.heap.size + 1) #[.slice am names.length cm, .slice an zs.length cn] 29 := blkT
      have kR : Blk w1 (w.heap.size + 1 + 1) #[.int .i64 0, .slice none 0 0, .slice none 0 0] 35 := blkT
      have hW : Below w.heap.size w w1 := blwT
      have qA := kA.cell
      have qM := kM.cell
      have lA := kA.lt
      have lM := kM.lt
      clear hb1
      go_wp2_with fail
      refine (HO1.out _ (HS.out.by hW)).mono ?_
      rintro e w2 ⟨rfl, hb2⟩
      replace kA := Blk.by hb2 kA
      replace kM := Blk.by hb2 kM
      replace kR := Blk.by hb2 kR
      replace hW := below_on hb2 hW
      clear hb2 qA qM lA lM
      have qA := kA.cell
      have qM := kM.cell
      have lA := kA.lt
      have lM := kM.lt
      have qR := kR.cell
      have fR := kR.free
      have lR := kR.lt
      go_wp2
      exact bodyPost_ret (v := .tuple #[.agg #[.int .i64 0, .slice none 0 0, .slice none 0 0], .int .i64 2]) (by simp [results, Tryz.results32, go_sem, *]) rfl ⟨_, rfl, nlZeroX _ _ _ (by simp; omega), blwT⟩
    | true =>
      cases p2 with
      | false =>
        simp only [Bool.false_eq_true, and_false, if_false] at hrc hrr
        subst hrc hrr
        clear h hm1 hm2 hok hnn hp1 hp2 hb hnet hdv
        go_enter Tryz.func32, Tryz.ntmps32
        go_wp2_with fail
        refine (HV.out _ _ (HN.out.by blwT)).mono ?_
        rintro e w1 ⟨rfl, hb1⟩
        have kA : Blk w1 w.heap.size #[.int .i64 (m : Int), .slice a ds.length c, .slice a' ps.length c'] 35 := blkT
        have kM : Blk w1 (w.heap.size + 1) #[.slice am names.length cm, .slice an zs.length cn] 29 := blkT
        have kR : Blk w1 (w.heap.size + 1 + 1) #[.int .i64 0, .slice none 0 0, .slice none 0 0] 35 := blkT
        have hW : Below w.heap.size w w1 := blwT
        have qA := kA.cell
        have qM := kM.cell
        have lA := kA.lt
        have lM := kM.lt
        clear hb1
        go_wp2_with fail
        refine (HO1.out _ (HS.out.by hW)).mono ?_
        rintro e w2 ⟨rfl, hb2⟩
        replace kA := Blk.by hb2 kA
        replace kM := Blk.by hb2 kM
        replace kR := Blk.by hb2 kR
        replace hW := below_on hb2 hW
        clear hb2 qA qM lA lM
        have qA := kA.cell
        have qM := kM.cell
        have lA := kA.lt
        have lM := kM.lt
        go_wp2_with fail
        refine (HO2.out _ (HZ.out.by hW)).mono ?_
        rintro e w3 ⟨rfl, hb3⟩
        replace kA := Blk.by hb3 kA
        replace kM := Blk.by hb3 kM
        replace kR := Blk.by hb3 kR
        replace hW := below_on hb3 hW
        clear hb3 qA qM lA lM
        have qA := kA.cell
        have qM := kM.cell
        have lA := kA.lt
        have lM := kM.lt
        have qR := kR.cell
        have fR := kR.free
        have lR := kR.lt
        go_wp2
        exact bodyPost_ret (v := .tuple #[.agg #[.int .i64 0, .slice none 0 0, .slice none 0 0], .int .i64 2]) (by simp [results, Tryz.results32, go_sem, *]) rfl ⟨_, rfl, nlZeroX _ _ _ (by simp; omega), blwT⟩
      | true =>
        simp only [and_self, if_true] at hrc hrr
        have hlen : (names.length : Int) = m := (permB_iff.1 hp1).1
        have hzl : zs.length = ds.length := by have := (permB_iff.1 hp2).1; omega
        have HZL := Lib.hid hzl
        have HR := Lib.hid (fun v w h h' => specRen_any ⟨(m : Int), ds, ps⟩ names (.slice am names.length cm) (m : Int) v w h h' (by dsimp only; omega) (by dsimp only; omega) (fun d hd => by have q := dvB_pins (hdv d hd); exact ⟨q.1, fun e => by rw [e] at q; simp at q, fun z hz => by have := q.2.2 z hz; omega⟩) (fun p hp => by have := hnet p hp; omega))
        have HSH := Lib.hid (show ∀ d ∈ ds, Shp d from fun d hd => shp_of (hdv d hd))
        have HP2 := Lib.hid hp2
        subst hrc
        subst hrr
        obtain ⟨RD, hRD⟩ : ∃ r, ds.map (renD names) = r := ⟨_, rfl⟩
        obtain ⟨RP, hRP⟩ : ∃ r, ps.map (renP names) = r := ⟨_, rfl⟩
        rw [hRD, hRP]
        have HRD := Lib.hid hRD
        have HRP := Lib.hid hRP
        have HI := Lib.hid (fun w h => specInv_any (.slice an zs.length cn) zs w h hl' (by rw [hzl]; exact hp2))
        clear h hm1 hm2 hok hnn hp1 hb hnet hdv hlen hp2 hzl hRD hRP
        go_enter Tryz.func32, Tryz.ntmps32
        go_wp2_with fail
        refine (HV.out _ _ (HN.out.by blwT)).mono ?_
        rintro e w1 ⟨rfl, hb1⟩
        have kA : Blk w1 w.heap.size #[.int .i64 (m : Int), .slice a ds.length c, .slice a' ps.length c'] 35 := blkT
        have kM : Blk w1 (w.heap.size + 1) #[.slice am names.length cm, .slice an zs.length cn] 29 := blkT
        have kR : Blk w1 (w.heap.size + 1 + 1) #[.int .i64 0, .slice none 0 0, .slice none 0 0] 35 := blkT
        have hW : Below w.heap.size w w1 := blwT
        have qA := kA.cell
        have qM := kM.cell
        have lA := kA.lt
        have lM := kM.lt
        clear hb1
        go_wp2_with fail
        refine (HO1.out _ (HS.out.by hW)).mono ?_
        rintro e w2 ⟨rfl, hb2⟩
        replace kA := Blk.by hb2 kA
        replace kM := Blk.by hb2 kM
        replace kR := Blk.by hb2 kR
        replace hW := below_on hb2 hW
        clear hb2 qA qM lA lM
        have qA := kA.cell
        have qM := kM.cell
        have lA := kA.lt
        have lM := kM.lt
        go_wp2_with fail
        refine (HO2.out _ (HZ.out.by hW)).mono ?_
        rintro e w3 ⟨rfl, hb3⟩
        replace kA := Blk.by hb3 kA
        replace kM := Blk.by hb3 kM
        replace kR := Blk.by hb3 kR
        replace hW := below_on hb3 hW
        clear hb3 qA qM lA lM
        have qA := kA.cell
        have qM := kM.cell
        have lA := kA.lt
        have lM := kM.lt
        go_wp2_with fail
        refine (HR.out _ _ (HN.out.by hW) (HS.out.by hW)).mono ?_
        rintro e w4 ⟨v4, rfl, hO, hb4⟩
        have hlo := kR.lt
        have hs43 := hb4.size
        replace kA := Blk.by hb4 kA
        replace kM := Blk.by hb4 kM
        replace kR := Blk.by hb4 kR
        replace hW := below_on hb4 hW
        clear hb4 qA qM lA lM
        have qA := kA.cell
        have qM := kM.cell
        have lA := kA.lt
        have lM := kM.lt
        obtain ⟨s1, s2, lo1, hi1, lo2, hi2, rfl, hOD, hOP, hi1', hi2', hap⟩ := hO
        simp only [renS, HRD.out, HRP.out] at hOD hOP
        obtain ⟨f, pv, hAT, hinj⟩ := hOD.at
        obtain ⟨a1, c1, rfl⟩ := hOD.sl.sized
        obtain ⟨a2, c2, rfl⟩ := hOP.sl.sized
        obtain ⟨P, hPP, hPr⟩ := hOP.pick w.heap.size
        have hrl : RD.length = ds.length := by rw [← HRD.out, List.length_map]
        have HRL := Lib.hid hrl
        have HAT := Lib.hid hAT
        have HPP := Lib.hid hPP
        have HINJ := Lib.hid hinj
        have HNE := Lib.hid (show ∀ (i : Nat) x, RD[i]? = some x → f i ≠ P ∧ lo1 ≤ f i ∧ f i < hi1 from fun i x hx => by have := (hAT i x hx).2.2; omega)
        have HP2R := Lib.hid (show permB zs (RD.length : Int) = true by rw [hrl]; exact HP2.out)
        have HZR := Lib.hid (show zs.length = RD.length by rw [hrl]; exact HZL.out)
        have hk4 := kR.lt
        have hd24' : RD.length ≤ 24 := by omega
        obtain ⟨X, hX⟩ : ∃ X, w4.heap.size = X := ⟨_, rfl⟩
        rw [hX] at hi1' hi2' hk4
        have hPX : P < X := by omega
        have hPR : P ≠ w.heap.size + 1 + 1 := by omega
        have hPw : w.heap.size ≤ P := by omega
        have h3X : w3.heap.size ≤ X := by omega
        have HX := Lib.hid hX
        clear hOD hOP hAT hPP hinj hX hrl
        go_wp2_with fail
        refine (HI.out _ (HZ.out.by blwT)).mono ?_
        rintro e w5 ⟨v5, rfl, hOI, hb5⟩
        rw [HX.out]
        have hal : Below w4.heap.size w4 (w4.alloc (.cells #[.int .i64 (m : Int), .slice a1 RD.length c1, .slice a2 RP.length c2] 35)) := (Below.refl _ w4).alloc (Nat.le_refl _) _
        have kX : Blk w5 X #[.int .i64 (m : Int), .slice a1 RD.length c1, .slice a2 RP.length c2] 35 := Blk.by hb5 (Blk.new _ HX.out.symm)
        replace kR := Blk.by hb5 (Blk.by hal kR)
        replace HAT := Lib.hid ((HAT.out.by hal).by hb5)
        replace HPP := Lib.hid ((HPP.out.by hal).by hb5)
        replace hW := below_on hb5 (hW.trans (hal.mono (by have := HX.out; omega)))
        obtain ⟨ao, co, rfl⟩ := hOI.sl.len
        have hsz5 := hb5.size
        simp only [World.size_alloc] at hsz5
        simp only [World.size_alloc, HX.out] at hOI
        rw [length_invS] at hOI ⊢
        have HOI := Lib.hid hOI
        clear hOI hb5 hal kA kM qA qM lA lM HN HS HZ HI HR HV HO1 HO2 HX
        have qX := kX.cell
        obtain ⟨Y, hY⟩ : ∃ Y, w5.heap.size = Y := ⟨_, rfl⟩
        rw [hY] at HOI
        have hXY : X < Y := by have := kX.lt; omega
        have hRY : w.heap.size + 1 + 1 < X := hk4
        go_wp2
        obtain ⟨wA, hwA⟩ : ∃ wA, wA = w5.alloc (.cells #[.int .i64 (m : Int), .slice none 0 0, .slice a2 RP.length c2] 35) := ⟨_, rfl⟩
        have hal : Below w5.heap.size w5 wA := by rw [hwA]; exact (Below.refl _ w5).alloc (Nat.le_refl _) _
        have kY : Blk wA Y #[.int .i64 (m : Int), .slice none 0 0, .slice a2 RP.length c2] 35 := by rw [hwA]; exact Blk.new _ hY.symm
        have hsA : wA.heap.size = Y + 1 := by rw [hwA]; simp [hY]
        have kXA := Blk.by hal kX
        have kRA := Blk.by hal kR
        have HATA := Lib.hid (HAT.out.by hal)
        have HPPA := Lib.hid (HPP.out.by hal)
        have HOIA := Lib.hid (OwnR.by hal HOI.out)
        have hWA := below_on hal hW
        have hBn := BldR.nil wA (Y + 1)
        rw [hsA] at hBn
        rw [← hwA]; (try rw [hY])
        clear hwA hal kX kR HAT HPP HOI hW qX hsA hY
        have HTD := Lib.hid (fun k d h => take_snoc_of (ordD zs RD) k d h)
        have HTI := Lib.hid (fun k d h => take_snoc_of (invS zs) k d h)
        go_loopw [9] (fun i wr => ∃ (k hi : Nat) (vv : Value), k ≤ zs.length ∧ i = .int .i64 k ∧ Hid (BldR wr (Y + 1) hi vv ((ordD zs RD).take k) (((invS zs).take k).map fun z => pv z.toNat)) ∧ Y + 1 ≤ hi ∧ Blk wr X #[.int .i64 (m : Int), .slice a1 RD.length c1, .slice a2 RP.length c2] 35 ∧ Blk wr Y #[.int .i64 (m : Int), vv, .slice a2 RP.length c2] 35 ∧ Blk wr (w.heap.size + 1 + 1) #[.int .i64 0, .slice none 0 0, .slice none 0 0] 35 ∧ Hid (DsAt wr lo1 hi1 (.slice a1 RD.length c1) RD f pv) ∧ Hid (OwnPs wr P (P + 1) (.slice a2 RP.length c2) RP) ∧ Hid (OwnR wr (X + 1) Y (.slice ao zs.length co) (invS zs)) ∧ Below w.heap.size w wr) (fun i _ => zs.length - (intOf i).toNat)
        case atStart => exact ⟨0, Y + 1, .slice none 0 0, Nat.zero_le _, rfl, Lib.hid hBn, Nat.le_refl _, kXA, kY, kRA, HATA, HPPA, HOIA, hWA⟩
        case round =>
          clear kXA kY kRA HATA HPPA HOIA hWA hBn
          obtain ⟨k, hi, vv, hk, rfl, HB, hhi, kX, kY, kR, HAT, HPP, HOI, hb⟩ := hrel
          have hml : ((ordD zs RD).take k).length = k := by rw [List.length_take, length_ordD]; omega
          obtain ⟨av, cv, rfl⟩ := HB.out.sized
          rw [hml] at HB kY
          have HML := Lib.hid hml
          have hhs := HB.out.1
          clear hml
          by_cases hlt : k < zs.length
          · obtain ⟨d, hd⟩ : ∃ d, (ordD zs RD)[k]? = some d := ⟨(ordD zs RD)[k]'(by rw [length_ordD]; exact hlt), List.getElem?_eq_getElem _⟩
            obtain ⟨j, e1, e2, e3⟩ := ordD_inv HP2R.out k d hd
            obtain ⟨⟨g, cap, cs, hsv, hg, kG, d0, d1, d2, d3⟩, hOR, hf⟩ := HAT.out j d e3
            obtain ⟨rfl, rfl⟩ : a1 = some ⟨g, 0, none⟩ ∧ c1 = cap := by simpa using hsv
            rcases HOI.out with ⟨_, _, _, e4⟩ | ⟨ob, ocap, ocs, hoe, ho1, ho2, _, _, kO, hoc⟩
            · rw [e4] at e1; simp at e1
            obtain ⟨rfl, rfl⟩ : ao = some ⟨ob, 0, none⟩ ∧ co = ocap := by simpa [length_invS] using hoe
            have e5 : wr.cell? ⟨ob, k, none⟩ = some (.int .i64 (j : Int)) := (kO.cell _).trans (hoc k j e1)
            have hone := hOR.one
            have hjl : j < RD.length := (List.getElem?_eq_some_iff.1 e3).1
            have i1 : (0 : Int) ≤ (k : Int) := by omega
            have i2 : (k : Int) < (zs.length : Int) := by omega
            have i3 : (0 : Int) ≤ (j : Int) := by omega
            have i4 : (j : Int) < (RD.length : Int) := by omega
            have HLM := Lib.hid (show ((ordD zs RD).take k).length ≤ 1000 by have := HZR.out; rw [HML.out]; omega)
            have HD := Lib.hid hd
            have HE1 := Lib.hid e1
            have HONE := Lib.hid hone
            have g0 : wr.cell? ⟨g, j * 4, none⟩ = some (.int .i64 d.kind) := (kG.cell _).trans d0
            have g1 : wr.cell? ⟨g, j * 4 + 1, none⟩ = some (pv j) := (kG.cell _).trans d1
            have g2 : wr.cell? ⟨g, j * 4 + 2, none⟩ = some (.int .i64 d.wd) := (kG.cell _).trans d2
            have g3 : wr.cell? ⟨g, j * 4 + 3, none⟩ = some (.int .i64 d.len) := (kG.cell _).trans d3
            have cY1 : wr.cell? ⟨Y, 1, none⟩ = some (.slice av k cv) := kY.cell 1
            have cX1 : wr.cell? ⟨X, 1, none⟩ = some (.slice (some ⟨g, 0, none⟩) RD.length c1) := kX.cell 1
            have lY := kY.lt
            have lX := kX.lt
            have lR := kR.lt
            have lG := kG.lt
            have lO := kO.lt
            clear hd e1 hone hoc e3 hsv hoe hOR d0 d1 d2 d3
            go_wp2_with fail
            refine wp_region_any (by kernel_rfl) (wpAny_of_E (S := fun w' => w'.cell? ⟨Y, 1, none⟩ = some (.slice av k cv) ∧ w'.cell? ⟨X, 1, none⟩ = some (.slice (some ⟨g, 0, none⟩) RD.length c1) ∧ w'.cell? ⟨ob, k, none⟩ = some (.int .i64 (j : Int)) ∧ w'.cell? ⟨g, j * 4, none⟩ = some (.int .i64 d.kind) ∧ w'.cell? ⟨g, j * 4 + 1, none⟩ = some (pv j) ∧ w'.cell? ⟨g, j * 4 + 2, none⟩ = some (.int .i64 d.wd) ∧ w'.cell? ⟨g, j * 4 + 3, none⟩ = some (.int .i64 d.len)) (l := 13) _ _ _ _ ?_)
            have hS : (fun w' : World => w'.cell? ⟨Y, 1, none⟩ = some (.slice av k cv) ∧ w'.cell? ⟨X, 1, none⟩ = some (.slice (some ⟨g, 0, none⟩) RD.length c1) ∧ w'.cell? ⟨ob, k, none⟩ = some (.int .i64 (j : Int)) ∧ w'.cell? ⟨g, j * 4, none⟩ = some (.int .i64 d.kind) ∧ w'.cell? ⟨g, j * 4 + 1, none⟩ = some (pv j) ∧ w'.cell? ⟨g, j * 4 + 2, none⟩ = some (.int .i64 d.wd) ∧ w'.cell? ⟨g, j * 4 + 3, none⟩ = some (.int .i64 d.len)) { wr with drawn := wr.drawn + 1 } := ⟨cY1, cX1, e5, g0, g1, g2, g3⟩
            change wpAnyE _ _ _ _ _ _ _ _ _ wr.drew
            refine wpAnyE_take (i := 0) (v := ?_) rfl (by kernel_rfl) (fun _ _ _ h => h) (Or.inl ⟨by rfl, ?_⟩) hS ?_
            rotate_left
            · intro w hSw; (try dsimp only at hSw); go_simp; (try with_reducible rfl)
            try simp only [Act.put, List.setIfInBounds_toArray, List.set_cons_zero, List.set_cons_succ]
            refine wpAnyE_take (i := 1) (v := ?_) rfl (by kernel_rfl) (fun _ _ _ h => h) (Or.inl ⟨by rfl, ?_⟩) hS ?_
            rotate_left
            · intro w hSw; (try dsimp only at hSw); go_simp; (try with_reducible rfl)
            try simp only [Act.put, List.setIfInBounds_toArray, List.set_cons_zero, List.set_cons_succ]
            refine wpAnyE_take (i := 2) (v := ?_) rfl (by kernel_rfl) (fun _ _ _ h => h) (Or.inl ⟨by rfl, ?_⟩) hS ?_
            rotate_left
            · intro w hSw; (try dsimp only at hSw); go_simp; (try with_reducible rfl)
            try simp only [Act.put, List.setIfInBounds_toArray, List.set_cons_zero, List.set_cons_succ]
            refine wpAnyE_take (i := 3) (v := ?_) rfl (by kernel_rfl) (fun _ _ _ h => h) (Or.inl ⟨by rfl, ?_⟩) hS ?_
            rotate_left
            · intro w hSw; (try dsimp only at hSw); go_simp; (try with_reducible rfl)
            try simp only [Act.put, List.setIfInBounds_toArray, List.set_cons_zero, List.set_cons_succ]
            refine wpAnyE_take (i := 4) (v := ?_) rfl (by kernel_rfl) (fun _ _ _ h => h) (Or.inl ⟨by rfl, ?_⟩) hS ?_
            rotate_left
            · intro w hSw; (try dsimp only at hSw); go_simp; (try with_reducible rfl)
            try simp only [Act.put, List.setIfInBounds_toArray, List.set_cons_zero, List.set_cons_succ]
            refine wpAnyE_take (i := 5) (v := ?_) rfl (by kernel_rfl) (fun _ _ _ h => h) (Or.inl ⟨by rfl, ?_⟩) hS ?_
            rotate_left
            · intro w hSw; (try dsimp only at hSw); go_simp; (try with_reducible rfl)
            try simp only [Act.put, List.setIfInBounds_toArray, List.set_cons_zero, List.set_cons_succ]
            refine wpAnyE_take (i := 6) (v := ?_) rfl (by kernel_rfl) (fun _ _ _ h => h) (Or.inl ⟨by rfl, ?_⟩) hS ?_
            rotate_left
            · intro w hSw; (try dsimp only at hSw); go_simp; (try with_reducible rfl)
            try simp only [Act.put, List.setIfInBounds_toArray, List.set_cons_zero, List.set_cons_succ]
            refine wpAnyE_take (i := 7) (v := ?_) rfl (by kernel_rfl) (fun _ _ _ h => h) (Or.inl ⟨by rfl, ?_⟩) hS ?_
            rotate_left
            · intro w hSw; (try dsimp only at hSw); go_simp; (try with_reducible rfl)
            try simp only [Act.put, List.setIfInBounds_toArray, List.set_cons_zero, List.set_cons_succ]
            refine wpAnyE_take (i := 8) (v := ?_) rfl (by kernel_rfl) (fun _ _ _ h => h) (Or.inl ⟨by rfl, ?_⟩) hS ?_
            rotate_left
            · intro w hSw; (try dsimp only at hSw); go_simp; (try with_reducible rfl)
            try simp only [Act.put, List.setIfInBounds_toArray, List.set_cons_zero, List.set_cons_succ]
            refine wpAnyE_take (i := 9) (v := ?_) rfl (by kernel_rfl) (fun _ _ _ h => h) (Or.inl ⟨by rfl, ?_⟩) hS ?_
            rotate_left
            · intro w hSw; (try dsimp only at hSw); go_simp; (try with_reducible rfl)
            try simp only [Act.put, List.setIfInBounds_toArray, List.set_cons_zero, List.set_cons_succ]
            refine wpAnyE_one (k := 10) (by kernel_rfl) rfl (fun K hK => ?_)
            go_simp
            refine hK.out _ _ (fun _ => ?_) ?_
            · have hal : Below wr.heap.size wr (wr.drew.alloc (.cells #[.int .i64 d.kind, pv j, .int .i64 d.wd, .int .i64 d.len] 62)) := (Below.refl _ wr).drew.alloc (Nat.le_refl _) _
              exact ⟨cell_by' hal cY1, cell_by' hal cX1, cell_by' hal e5, cell_by' hal g0, cell_by' hal g1, cell_by' hal g2, cell_by' hal g3⟩
            try simp only [Act.put, List.setIfInBounds_toArray, List.set_cons_zero, List.set_cons_succ]
            refine wpAnyE_one (k := 11) (by kernel_rfl) rfl (fun K hK => ?_)
            have hal : Below wr.heap.size wr (wr.drew.alloc (.cells #[.int .i64 d.kind, pv j, .int .i64 d.wd, .int .i64 d.len] 62)) := (Below.refl _ wr).drew.alloc (Nat.le_refl _) _
            refine step_pushRB (by rfl) _ _ (by rfl) (Y + 1) hi (.slice av k cv) ((ordD zs RD).take k) (((invS zs).take k).map fun z => pv z.toNat) (by rfl) (HB.out.by hal) wr.heap.size d (pv j) (by rfl) (Blk.new _ rfl) HONE.out hhi HLM.out ?_
            intro a' c' w3 hB3 hw3
            rw [HML.out] at hB3 ⊢
            have HB3 := Lib.hid hB3
            have kX3 := hw3.blk (Blk.by hal kX) (by omega)
            have kY3 := hw3.blk (Blk.by hal kY) (by omega)
            have kR3 := hw3.blk (Blk.by hal kR) (by omega)
            have kG3 := hw3.blk (Blk.by hal kG) (by omega)
            have hb3 := hw3.below (below_on hal hb) (by omega)
            have hsz3 := hw3.size
            simp only [World.size_alloc, World.size_drew] at hsz3
            have HAT3 := Lib.hid (DsAt.past hw3 (HAT.out.by hal) (by omega))
            have HPP3 := Lib.hid (OwnPs.past hw3 (HPP.out.by hal) (by omega))
            have HOI3 := Lib.hid (OwnR.past hw3 (OwnR.by hal HOI.out) (by omega))
            have kO3 := hw3.blk (Blk.by hal kO) (by omega)
            have cY3 : w3.cell? ⟨Y, 1, none⟩ = some (.slice av k cv) := kY3.cell 1
            have fY3 : w3.frozen? ⟨Y, 1, none⟩ = false := kY3.free 1
            have lY3 := kY3.lt
            have hS3 : w3.cell? ⟨Y, 1, none⟩ = some (.slice av k cv) ∧ w3.cell? ⟨X, 1, none⟩ = some (.slice (some ⟨g, 0, none⟩) RD.length c1) ∧ w3.cell? ⟨ob, k, none⟩ = some (.int .i64 (j : Int)) ∧ w3.cell? ⟨g, j * 4, none⟩ = some (.int .i64 d.kind) ∧ w3.cell? ⟨g, j * 4 + 1, none⟩ = some (pv j) ∧ w3.cell? ⟨g, j * 4 + 2, none⟩ = some (.int .i64 d.wd) ∧ w3.cell? ⟨g, j * 4 + 3, none⟩ = some (.int .i64 d.len) := ⟨cY3, kX3.cell 1, (kO3.cell _).trans ((kO.cell _).symm.trans e5), (kG3.cell _).trans ((kG.cell _).symm.trans g0), (kG3.cell _).trans ((kG.cell _).symm.trans g1), (kG3.cell _).trans ((kG.cell _).symm.trans g2), (kG3.cell _).trans ((kG.cell _).symm.trans g3)⟩
            clear hB3
            refine hK.out _ _ (fun _ => hS3) ?_
            try simp only [Act.put, List.setIfInBounds_toArray, List.set_cons_zero, List.set_cons_succ]
            refine wpAnyE_one (k := 12) (by kernel_rfl) rfl (fun K hK => ?_)
            go_simp
            refine hK.out _ _ (fun _ => hS3) ?_
            try simp only [Act.put, List.setIfInBounds_toArray, List.set_cons_zero, List.set_cons_succ]
            refine wpAnyE_one (k := 13) (by kernel_rfl) rfl (fun K hK => ?_)
            go_simp
            refine hK.out _ _ (fun h => absurd rfl h) ?_
            refine wpAnyE_done (by kernel_rfl) ?_ _
            clear hS hS3
            go_wp2_with fail
            have hW4 : Within Y (Y + 1) w3 (w3.setCell ⟨Y, 1, none⟩ (.slice a' (k + 1) c')) := Within.off _
            refine ⟨⟨k + 1, w3.heap.size, .slice a' (k + 1) c', by omega, by go_num, Lib.hid ?_, by omega, kX3.apart _ 1 _ (by omega), kY3.set 1 _, kR3.apart _ 1 _ (by omega), Lib.hid (DsAt.past hW4 HAT3.out (by omega)), Lib.hid (OwnPs.past hW4 HPP3.out (by omega)), Lib.hid (OwnR.past hW4 HOI3.out (by omega)), hb3.setCell (by simp; omega) _⟩, by simp [intOf]; omega⟩
            rw [HTD.out k d HD.out, HTI.out k j HE1.out, List.map_append]
            exact BldR.past hW4 HB3.out (by omega)
          · obtain rfl : k = zs.length := by omega
            have hBD := HB.out
            rw [List.take_of_length_le (by rw [length_ordD]; exact Nat.le_refl _), List.take_of_length_le (by rw [length_invS]; exact Nat.le_refl _)] at hBD
            have hXD : OwnDsX wr w3.heap.size hi P (.slice av zs.length cv) (ordD zs RD) := by
              refine BldR.ownX (f := fun i => f ((invS zs).getD i 0).toNat) hBD (by omega) (Nat.le_refl _) (.inl (by omega)) (fun i x pv' hx hp' => ?_) (fun i i' hi1 hi2 hne' => ?_)
              · obtain ⟨j, q1, q2, q3⟩ := ordD_inv HP2R.out i x hx
                have hin : (invS zs).getD i 0 = (j : Int) := by simp [List.getD_eq_getElem?_getD, q1]
                have hpv : pv' = pv j := by simpa [q1] using hp'.symm
                obtain ⟨_, hOR, hf⟩ := HAT.out j x q3
                have hn := HNE.out j x q3
                (try dsimp only)
                rw [hin, hpv, Int.toNat_natCast]
                exact ⟨hOR, by omega, by omega, hn.1⟩
              · rw [length_ordD] at hi1 hi2
                obtain ⟨x1, hx1⟩ : ∃ x1, (ordD zs RD)[i]? = some x1 := ⟨(ordD zs RD)[i]'(by rw [length_ordD]; exact hi1), List.getElem?_eq_getElem _⟩
                obtain ⟨x2, hx2⟩ : ∃ x2, (ordD zs RD)[i']? = some x2 := ⟨(ordD zs RD)[i']'(by rw [length_ordD]; exact hi2), List.getElem?_eq_getElem _⟩
                obtain ⟨j1, q1, q2, q3⟩ := ordD_inv HP2R.out i x1 hx1
                obtain ⟨j2, r1, r2, r3⟩ := ordD_inv HP2R.out i' x2 hx2
                have e1 : (invS zs).getD i 0 = (j1 : Int) := by simp [List.getD_eq_getElem?_getD, q1]
                have e2 : (invS zs).getD i' 0 = (j2 : Int) := by simp [List.getD_eq_getElem?_getD, r1]
                (try dsimp only)
                rw [e1, e2, Int.toNat_natCast, Int.toNat_natCast]
                refine HINJ.out j1 j2 (List.getElem?_eq_some_iff.1 q3).1 (List.getElem?_eq_some_iff.1 r3).1 (fun e => hne' ?_)
                subst e
                exact invS_inj HP2R.out i i' _ q1 r1
            have HXD := Lib.hid hXD
            have qY := kY.cell
            have lY := kY.lt
            have qR := kR.cell
            have fR := kR.free
            have lR := kR.lt
            clear hBD HB hXD
            go_wp2
            refine bodyPost_ret (v := .tuple #[.agg #[.int .i64 (m : Int), .slice av zs.length cv, .slice a2 RP.length c2], .int .i64 0]) (by simp [results, Tryz.results32, go_sem, *]) rfl ⟨_, rfl, ⟨_, _, P, rfl, ?_, ?_, ⟨by omega, by simp; omega⟩⟩, blwT⟩
            · refine OwnDsX.wide (lo := w3.heap.size) (hi := hi) ?_ (by omega) (by simp; omega)
              exact ((HXD.out.past (Within.off _) (by omega)).past (Within.off _) (by omega)).past (Within.off _) (by omega)
            · exact ((HPP.out.past (Within.off _) (by omega)).past (Within.off _) (by omega)).past (Within.off _) (by omega)
  · rw [if_neg hb] at hrc hrr
    have hbf : nlB x = false := by simpa using hb
    rw [hbf] at HV
    subst hrc hrr
    clear h hm1 hm2 hok hnn hb hbf
    go_enter Tryz.func32, Tryz.ntmps32
    go_wp2_with fail
    refine (HV.out _ _ (HN.out.by blwT)).mono ?_
    rintro e w1 ⟨rfl, hb1⟩
    have kR : Blk w1 (w.heap.size + 1 + 1) #[.int .i64 0, .slice none 0 0, .slice none 0 0] 35 := blkT
    have hW : Below w.heap.size w w1 := blwT
    have qR := kR.cell
    have fR := kR.free
    have lR := kR.lt
    clear hb1
    go_wp2
    exact bodyPost_ret (v := .tuple #[.agg #[.int .i64 0, .slice none 0 0, .slice none 0 0], .int .i64 1]) (by simp [results, Tryz.results32, go_sem, *]) rfl ⟨_, rfl, nlZeroX _ _ _ (by simp; omega), blwT⟩
/- ApplyMatching, the program's. -/
set_option maxRecDepth 100000 in
set_option maxHeartbeats 2000000 in
theorem implApply_any (x : Nl) (y : List Int × List Int) (v u : Value) (w : World) (h : NlV w v x) (hm : MaV w u y) (hok : ∀ p ∈ x.ps, p.ok) (hnn : Fits x.nets) (hl : y.1.length ≤ 1048576) (hl' : y.2.length ≤ 1048576) :
    Calls Tryz.prog 30 #[v, u] w fun e w' => ∃ v', e = .returned (.tuple #[v', .int .i64 (apC x y)]) ∧ OwnNlX w' w.heap.size w'.heap.size v' (apR x y) ∧ Below w.heap.size w w' := by
  have HV := Lib.hid (fun v w h => implNl_any x v w h hok hnn)
  have HN := Lib.hid h
  obtain ⟨s1, s2, rfl, hm1, hm2⟩ := hm
  obtain ⟨names, zs⟩ := y
  dsimp only at hm1 hm2 hl hl'
  have HS := Lib.hid hm1
  have HZ := Lib.hid hm2
  obtain ⟨rc, hrc⟩ : ∃ r, apC x (names, zs) = r := ⟨_, rfl⟩
  obtain ⟨rr, hrr⟩ : ∃ r, apR x (names, zs) = r := ⟨_, rfl⟩
  rw [hrc, hrr]
  unfold apC at hrc
  unfold apR at hrr
  obtain ⟨a, c, a', c', rfl⟩ := h.sized
  obtain ⟨am, cm, rfl⟩ := hm1.len
  obtain ⟨an, cn, rfl⟩ := hm2.len
  by_cases hb : nlB x = true
  · obtain ⟨⟨hn0, hn1⟩, hd24, hp8, hdv, _⟩ := nlB_facts hb
    have hnet := nl_netsX hb
    obtain ⟨nets, ds, ps⟩ := x
    dsimp only at *
    obtain ⟨m, rfl⟩ : ∃ m : Nat, nets = m := ⟨nets.toNat, by omega⟩
    rw [hb] at HV
    rw [if_pos hb] at hrc hrr
    have HO1 := Lib.hid (fun w h => implOrder_any (.slice am names.length cm) names m w h hl)
    have HO2 := Lib.hid (fun w h => implOrder_any (.slice an zs.length cn) zs ds.length w h hl')
    obtain ⟨p1, hp1⟩ : ∃ p, permB names (m : Int) = p := ⟨_, rfl⟩
    obtain ⟨p2, hp2⟩ : ∃ p, permB zs (ds.length : Int) = p := ⟨_, rfl⟩
    rw [hp1] at HO1 hrc hrr
    rw [hp2] at HO2 hrc hrr
    cases p1 with
    | false =>
      simp only [Bool.false_eq_true, false_and, if_false] at hrc hrr
      subst hrc hrr
      clear h hm1 hm2 hok hnn hp1 hp2 hb hnet hdv HO2
      go_enter Tryz.func30, Tryz.ntmps30
      go_wp2_with fail
      refine (HV.out _ _ (HN.out.by blwT)).mono ?_
      rintro e w1 ⟨rfl, hb1⟩
      have kA : Blk w1 w.heap.size #[.int .i64 (m : Int), .slice a ds.length c, .slice a' ps.length c'] 35 := blkT
      have kM : Blk w1 (w.heap.size + 1) #[.slice am names.length cm, .slice an zs.length cn] 29 := blkT
      have kR : Blk w1 (w.heap.size + 1 + 1) #[.int .i64 0, .slice none 0 0, .slice none 0 0] 35 := blkT
      have hW : Below w.heap.size w w1 := blwT
      have qA := kA.cell
      have qM := kM.cell
      have lA := kA.lt
      have lM := kM.lt
      clear hb1
      go_wp2_with fail
      refine (HO1.out _ (HS.out.by hW)).mono ?_
      rintro e w2 ⟨rfl, hb2⟩
      replace kA := Blk.by hb2 kA
      replace kM := Blk.by hb2 kM
      replace kR := Blk.by hb2 kR
      replace hW := below_on hb2 hW
      clear hb2 qA qM lA lM
      have qA := kA.cell
      have qM := kM.cell
      have lA := kA.lt
      have lM := kM.lt
      have qR := kR.cell
      have fR := kR.free
      have lR := kR.lt
      go_wp2
      exact bodyPost_ret (v := .tuple #[.agg #[.int .i64 0, .slice none 0 0, .slice none 0 0], .int .i64 2]) (by simp [results, Tryz.results30, go_sem, *]) rfl ⟨_, rfl, nlZeroX _ _ _ (by simp; omega), blwT⟩
    | true =>
      cases p2 with
      | false =>
        simp only [Bool.false_eq_true, and_false, if_false] at hrc hrr
        subst hrc hrr
        clear h hm1 hm2 hok hnn hp1 hp2 hb hnet hdv
        go_enter Tryz.func30, Tryz.ntmps30
        go_wp2_with fail
        refine (HV.out _ _ (HN.out.by blwT)).mono ?_
        rintro e w1 ⟨rfl, hb1⟩
        have kA : Blk w1 w.heap.size #[.int .i64 (m : Int), .slice a ds.length c, .slice a' ps.length c'] 35 := blkT
        have kM : Blk w1 (w.heap.size + 1) #[.slice am names.length cm, .slice an zs.length cn] 29 := blkT
        have kR : Blk w1 (w.heap.size + 1 + 1) #[.int .i64 0, .slice none 0 0, .slice none 0 0] 35 := blkT
        have hW : Below w.heap.size w w1 := blwT
        have qA := kA.cell
        have qM := kM.cell
        have lA := kA.lt
        have lM := kM.lt
        clear hb1
        go_wp2_with fail
        refine (HO1.out _ (HS.out.by hW)).mono ?_
        rintro e w2 ⟨rfl, hb2⟩
        replace kA := Blk.by hb2 kA
        replace kM := Blk.by hb2 kM
        replace kR := Blk.by hb2 kR
        replace hW := below_on hb2 hW
        clear hb2 qA qM lA lM
        have qA := kA.cell
        have qM := kM.cell
        have lA := kA.lt
        have lM := kM.lt
        go_wp2_with fail
        refine (HO2.out _ (HZ.out.by hW)).mono ?_
        rintro e w3 ⟨rfl, hb3⟩
        replace kA := Blk.by hb3 kA
        replace kM := Blk.by hb3 kM
        replace kR := Blk.by hb3 kR
        replace hW := below_on hb3 hW
        clear hb3 qA qM lA lM
        have qA := kA.cell
        have qM := kM.cell
        have lA := kA.lt
        have lM := kM.lt
        have qR := kR.cell
        have fR := kR.free
        have lR := kR.lt
        go_wp2
        exact bodyPost_ret (v := .tuple #[.agg #[.int .i64 0, .slice none 0 0, .slice none 0 0], .int .i64 2]) (by simp [results, Tryz.results30, go_sem, *]) rfl ⟨_, rfl, nlZeroX _ _ _ (by simp; omega), blwT⟩
      | true =>
        simp only [and_self, if_true] at hrc hrr
        have hlen : (names.length : Int) = m := (permB_iff.1 hp1).1
        have hzl : zs.length = ds.length := by have := (permB_iff.1 hp2).1; omega
        have HZL := Lib.hid hzl
        have HR := Lib.hid (fun v w h h' => implRen_any ⟨(m : Int), ds, ps⟩ names (.slice am names.length cm) (m : Int) v w h h' (by dsimp only; omega) (by dsimp only; omega) (fun d hd => by have q := dvB_pins (hdv d hd); exact ⟨q.1, fun e => by rw [e] at q; simp at q, fun z hz => by have := q.2.2 z hz; omega⟩) (fun p hp => by have := hnet p hp; omega))
        have HSH := Lib.hid (show ∀ d ∈ ds, Shp d from fun d hd => shp_of (hdv d hd))
        have HP2 := Lib.hid hp2
        subst hrc
        subst hrr
        obtain ⟨RD, hRD⟩ : ∃ r, ds.map (renD names) = r := ⟨_, rfl⟩
        obtain ⟨RP, hRP⟩ : ∃ r, ps.map (renP names) = r := ⟨_, rfl⟩
        rw [hRD, hRP]
        have HRD := Lib.hid hRD
        have HRP := Lib.hid hRP
        have HCP := Lib.hid (fun v w h => copyNetlist_any (renS ⟨(m : Int), ds, ps⟩ names m) v w h (by simp [renS]; omega) (by simp [renS]; omega) (fun d hd => by
          simp only [renS] at hd
          obtain ⟨e, he, rfl⟩ := List.mem_map.1 hd
          have q := dvB_pins (hdv e he)
          exact ⟨by simp [renD]; omega, fun e' => by simp [renD] at e'; rw [e'] at q; simp at q⟩))
        clear h hm1 hm2 hok hnn hp1 hb hnet hdv hlen hp2 hzl hRD hRP
        go_enter Tryz.func30, Tryz.ntmps30
        go_wp2_with fail
        refine (HV.out _ _ (HN.out.by blwT)).mono ?_
        rintro e w1 ⟨rfl, hb1⟩
        have kA : Blk w1 w.heap.size #[.int .i64 (m : Int), .slice a ds.length c, .slice a' ps.length c'] 35 := blkT
        have kM : Blk w1 (w.heap.size + 1) #[.slice am names.length cm, .slice an zs.length cn] 29 := blkT
        have kR : Blk w1 (w.heap.size + 1 + 1) #[.int .i64 0, .slice none 0 0, .slice none 0 0] 35 := blkT
        have hW : Below w.heap.size w w1 := blwT
        have qA := kA.cell
        have qM := kM.cell
        have lA := kA.lt
        have lM := kM.lt
        clear hb1
        go_wp2_with fail
        refine (HO1.out _ (HS.out.by hW)).mono ?_
        rintro e w2 ⟨rfl, hb2⟩
        replace kA := Blk.by hb2 kA
        replace kM := Blk.by hb2 kM
        replace kR := Blk.by hb2 kR
        replace hW := below_on hb2 hW
        clear hb2 qA qM lA lM
        have qA := kA.cell
        have qM := kM.cell
        have lA := kA.lt
        have lM := kM.lt
        go_wp2_with fail
        refine (HO2.out _ (HZ.out.by hW)).mono ?_
        rintro e w3 ⟨rfl, hb3⟩
        replace kA := Blk.by hb3 kA
        replace kM := Blk.by hb3 kM
        replace kR := Blk.by hb3 kR
        replace hW := below_on hb3 hW
        clear hb3 qA qM lA lM
        have qA := kA.cell
        have qM := kM.cell
        have lA := kA.lt
        have lM := kM.lt
        go_wp2_with fail
        refine (HR.out _ _ (HN.out.by hW) (HS.out.by hW)).mono ?_
        rintro e w4 ⟨v4, rfl, hO, hb4⟩
        have hlo := kR.lt
        have hs43 := hb4.size
        replace kA := Blk.by hb4 kA
        replace kM := Blk.by hb4 kM
        replace kR := Blk.by hb4 kR
        replace hW := below_on hb4 hW
        clear hb4 qA qM lA lM
        have qA := kA.cell
        have qM := kM.cell
        have lA := kA.lt
        have lM := kM.lt
        obtain ⟨s1, s2, lo1, hi1, lo2, hi2, rfl, hOD, hOP, hi1', hi2', hap⟩ := hO
        simp only [renS, HRD.out, HRP.out] at hOD hOP
        obtain ⟨f, pv, hAT, hinj⟩ := hOD.at
        obtain ⟨a1, c1, rfl⟩ := hOD.sl.sized
        obtain ⟨a2, c2, rfl⟩ := hOP.sl.sized
        have hN4 : NlV w4 (.agg #[.int .i64 (m : Int), .slice a1 RD.length c1, .slice a2 RP.length c2]) ⟨(m : Int), RD, RP⟩ := ⟨_, _, rfl, hOD.sl, hOP.sl⟩
        have HN4 := Lib.hid hN4
        have HCP := Lib.hid (fun w h => HCP.out (.agg #[.int .i64 (m : Int), .slice a1 RD.length c1, .slice a2 RP.length c2]) w h)
        simp only [renS, HRD.out, HRP.out] at HCP
        have hrl : RD.length = ds.length := by rw [← HRD.out, List.length_map]
        have HAT := Lib.hid hAT
        have HINJ := Lib.hid hinj
        have HFR := Lib.hid (show ∀ (i : Nat) x, RD[i]? = some x → lo1 ≤ f i ∧ f i < hi1 from fun i x hx => (hAT i x hx).2.2)
        have HP2R := Lib.hid (show permB zs (RD.length : Int) = true by rw [hrl]; exact HP2.out)
        have HZR := Lib.hid (show zs.length = RD.length by rw [hrl]; exact HZL.out)
        have hk4 := kR.lt
        have hd24' : RD.length ≤ 24 := by omega
        obtain ⟨X, hX⟩ : ∃ X, w4.heap.size = X := ⟨_, rfl⟩
        rw [hX] at hi1' hi2' hk4
        have h3X : w3.heap.size ≤ X := by omega
        have HX := Lib.hid hX
        clear hOD hOP hAT hinj hX hrl hN4
        go_wp2_with fail
        have hal : Below w4.heap.size w4 (w4.alloc (.cells #[.int .i64 (m : Int), .slice a1 RD.length c1, .slice a2 RP.length c2] 35)) := (Below.refl _ w4).alloc (Nat.le_refl _) _
        refine (HCP.out _ (HN4.out.by hal)).mono ?_
        rintro e w5 ⟨v5, rfl, hO, hb5⟩
        rw [HX.out]
        obtain ⟨s3, s4, lo3, hi3, lo4, hi4, rfl, hOD3, hOP4, hi3', hi4', hap3⟩ := hO
        simp only [World.size_alloc, HX.out] at hi3' hi4'
        obtain ⟨a3, c3, rfl⟩ := hOD3.sl.sized
        obtain ⟨a4, c4, rfl⟩ := hOP4.sl.sized
        dsimp only at hOD3 hOP4
        obtain ⟨P, hPP, hPr⟩ := hOP4.pick w.heap.size
        have HPP := Lib.hid hPP
        have kX : Blk w5 X #[.int .i64 (m : Int), .slice a1 RD.length c1, .slice a2 RP.length c2] 35 := Blk.by hb5 (Blk.new _ HX.out.symm)
        replace kR := Blk.by hb5 (Blk.by hal kR)
        replace kM := Blk.by hb5 (Blk.by hal kM)
        replace HAT := Lib.hid ((HAT.out.by hal).by hb5)
        replace hW := below_on hb5 (hW.trans (hal.mono (by have := HX.out; omega)))
        have HZB := Lib.hid HZ.out
        have hsz5 := hb5.size
        simp only [World.size_alloc, HX.out] at hsz5
        clear hOP4 hPP hb5 hal kA qA qM lA lM HN HS HR HV HO1 HO2 HX HCP HN4
        have qX := kX.cell
        obtain ⟨Y, hY⟩ : ∃ Y, w5.heap.size = Y := ⟨_, rfl⟩
        rw [hY] at hi3' hi4' hsz5
        have hXY : X < Y := by omega
        have hRY : w.heap.size + 1 + 1 < X := hk4
        rcases Nat.eq_zero_or_pos RD.length with hz0 | hz0
        · obtain rfl : RD = [] := List.eq_nil_of_length_eq_zero hz0
          have hz00 : zs.length = 0 := HZR.out
          obtain rfl : zs = [] := List.eq_nil_of_length_eq_zero hz00
          have hPR : P ≠ w.heap.size + 1 + 1 := by omega
          have hPY : P < Y := by omega
          have hPw : w.heap.size ≤ P := by omega
          clear hz0 hz00 hOD3 kM
          go_wp2
          obtain ⟨wA, hwA⟩ : ∃ wA, wA = w5.alloc (.cells #[.int .i64 (m : Int), .slice a3 0 c3, .slice a4 RP.length c4] 35) := ⟨_, rfl⟩
          have hal : Below w5.heap.size w5 wA := by rw [hwA]; exact (Below.refl _ w5).alloc (Nat.le_refl _) _
          have kY : Blk wA Y #[.int .i64 (m : Int), .slice a3 0 c3, .slice a4 RP.length c4] 35 := by rw [hwA]; exact Blk.new _ hY.symm
          have kRA := Blk.by hal kR
          have HPPA := Lib.hid (HPP.out.by hal)
          have hWA := below_on hal hW
          rw [← hwA]; (try rw [hY])
          clear hwA hal kX kR HAT HPP hW qX hY
          go_loopw [43] (fun i wr => i = .int .i64 0 ∧ wr = wA) (fun _ _ => 0)
          case atStart => exact ⟨rfl, rfl⟩
          case round =>
            obtain ⟨rfl, rfl⟩ := hrel
            have qY := kY.cell
            have lY := kY.lt
            have qR := kRA.cell
            have fR := kRA.free
            have lR := kRA.lt
            go_wp2
            refine bodyPost_ret (v := .tuple #[.agg #[.int .i64 (m : Int), .slice a3 0 c3, .slice a4 RP.length c4], .int .i64 0]) (by simp [results, Tryz.results30, go_sem, *]) rfl ⟨_, rfl, ⟨_, _, P, rfl, .inl ⟨_, _, rfl, by simp [ordD, invS, invTo]⟩, ?_, ⟨by omega, by simp; omega⟩⟩, blwT⟩
            exact ((HPPA.out.past (Within.off _) (by omega)).past (Within.off _) (by omega)).past (Within.off _) (by omega)
        · obtain ⟨gO, hgO, csz, hO0, hOw⟩ : ∃ gO, (lo3 ≤ gO ∧ gO < hi3) ∧ ∃ cs0 : Array Value, (a3 = some ⟨gO, 0, none⟩ ∧ RD.length ≤ c3 ∧ c3 ≤ maxLen ∧ RD.length * 4 ≤ cs0.size) ∧ Blk w5 gO cs0 62 := by
            rcases hOD3 with ⟨_, _, _, e⟩ | ⟨g, cap, cs, f, e1, e2, e3, e4, e5, e6, e7⟩
            · rw [e] at hz0; simp at hz0
            · obtain ⟨rfl, rfl⟩ : a3 = some ⟨g, 0, none⟩ ∧ c3 = cap := by simpa using e1
              refine ⟨g, e2, cs, ⟨rfl, e3, e4, ?_⟩, e5⟩
              have hl : RD.length - 1 < RD.length := by omega
              obtain ⟨⟨pv', ⟨_, _, _, hc⟩, _⟩, _⟩ := e6 (RD.length - 1) _ (List.getElem?_eq_getElem hl)
              have := (Array.getElem?_eq_some_iff.1 hc).1
              omega
          obtain ⟨rfl, hcap, hmax, hcz⟩ := hO0
          have hgP : gO ≠ P := by omega
          have hPR : P ≠ w.heap.size + 1 + 1 := by omega
          have hPY : P < Y := by omega
          have hPw : w.heap.size ≤ P := by omega
          clear hOD3
          go_wp2
          obtain ⟨wA, hwA⟩ : ∃ wA, wA = w5.alloc (.cells #[.int .i64 (m : Int), .slice (some ⟨gO, 0, none⟩) RD.length c3, .slice a4 RP.length c4] 35) := ⟨_, rfl⟩
          have hal : Below w5.heap.size w5 wA := by rw [hwA]; exact (Below.refl _ w5).alloc (Nat.le_refl _) _
          have kY : Blk wA Y #[.int .i64 (m : Int), .slice (some ⟨gO, 0, none⟩) RD.length c3, .slice a4 RP.length c4] 35 := by rw [hwA]; exact Blk.new _ hY.symm
          have kXA := Blk.by hal kX
          have kRA := Blk.by hal kR
          have kMA := Blk.by hal kM
          have kOA := Blk.by hal hOw
          have HATA := Lib.hid (HAT.out.by hal)
          have HPPA := Lib.hid (HPP.out.by hal)
          have hWA := below_on hal hW
          rw [← hwA]; (try rw [hY])
          clear hwA hal kX kR kM hOw HAT HPP hW qX hY
          go_loopw [43] (fun i wr => ∃ k : Nat, k ≤ RD.length ∧ i = .int .i64 k ∧ Blk wr X #[.int .i64 (m : Int), .slice a1 RD.length c1, .slice a2 RP.length c2] 35 ∧ Blk wr Y #[.int .i64 (m : Int), .slice (some ⟨gO, 0, none⟩) RD.length c3, .slice a4 RP.length c4] 35 ∧ Blk wr (w.heap.size + 1) #[.slice am names.length cm, .slice an zs.length cn] 29 ∧ Blk wr (w.heap.size + 1 + 1) #[.int .i64 0, .slice none 0 0, .slice none 0 0] 35 ∧
            (∃ cs : Array Value, Blk wr gO cs 62 ∧ cs.size = csz.size ∧ Hid (∀ (i : Nat) (z : Int) (x : Dv), i < k → zs[i]? = some z → RD[i]? = some x → Cs4 cs z.toNat (.int .i64 x.kind) (pv i) (.int .i64 x.wd) (.int .i64 x.len))) ∧
            Hid (DsAt wr lo1 hi1 (.slice a1 RD.length c1) RD f pv) ∧ Hid (OwnPs wr P (P + 1) (.slice a4 RP.length c4) RP) ∧ Below w.heap.size w wr) (fun i _ => RD.length - (intOf i).toNat)
          case atStart => exact ⟨0, Nat.zero_le _, rfl, kXA, kY, kMA, kRA, ⟨csz, kOA, rfl, Lib.hid (fun i z x h => by omega)⟩, HATA, HPPA, hWA⟩
          case round =>
            clear kXA kY kRA kMA kOA HATA HPPA hWA
            obtain ⟨k, hk, rfl, kX, kY, kM, kR, ⟨cs, kO, hsz, HC⟩, HAT, HPP, hb⟩ := hrel
            by_cases hlt : k < RD.length
            · obtain ⟨d, hd⟩ : ∃ d, RD[k]? = some d := ⟨RD[k], List.getElem?_eq_getElem hlt⟩
              obtain ⟨⟨g, cap, ct, hsv, hg, kG, d0, d1, d2, d3⟩, hOR, hf⟩ := HAT.out k d hd
              obtain ⟨rfl, rfl⟩ : a1 = some ⟨g, 0, none⟩ ∧ c1 = cap := by simpa using hsv
              obtain ⟨z, hz⟩ : ∃ z, zs[k]? = some z := ⟨zs[k]'(by rw [HZR.out]; exact hlt), List.getElem?_eq_getElem _⟩
              obtain ⟨hz1, hz2⟩ := (permB_iff.1 HP2R.out).2.2 z (List.mem_of_getElem? hz)
              obtain ⟨q, rfl⟩ : ∃ q : Nat, z = q := ⟨z.toNat, by omega⟩
              rcases HZB.out.by hb with ⟨_, _, _, e4⟩ | ⟨zb, zo, zcap, hze, _, _, hzc⟩
              · rw [e4] at hz; simp at hz
              obtain ⟨rfl, rfl⟩ : an = some ⟨zb, zo, none⟩ ∧ cn = zcap := by simpa using hze
              have e5 := hzc k q hz
              have hq4 : q * 4 + 3 < cs.size := by omega
              obtain ⟨u0, t0⟩ : ∃ u, cs[q * 4]? = some u := ⟨_, Array.getElem?_eq_getElem (by omega)⟩
              obtain ⟨u1, t1⟩ : ∃ u, cs[q * 4 + 1]? = some u := ⟨_, Array.getElem?_eq_getElem (by omega)⟩
              obtain ⟨u2, t2⟩ : ∃ u, cs[q * 4 + 2]? = some u := ⟨_, Array.getElem?_eq_getElem (by omega)⟩
              obtain ⟨u3, t3⟩ : ∃ u, cs[q * 4 + 3]? = some u := ⟨_, Array.getElem?_eq_getElem (by omega)⟩
              have i1 : (0 : Int) ≤ (k : Int) := by omega
              have i2 : (k : Int) < (RD.length : Int) := by omega
              have i2' : (k : Int) < (zs.length : Int) := by have := HZR.out; omega
              have i3 : (0 : Int) ≤ (q : Int) := by omega
              have i4 : (q : Int) < (RD.length : Int) := by omega
              have HD := Lib.hid hd
              have HZK := Lib.hid hz
              have HSZ := Lib.hid hsz
              have HQ := Lib.hid hq4
              obtain ⟨ap, cp, hpv⟩ := hOR.sl.len
              rw [hpv] at d1
              have HPV := Lib.hid hpv
              have qG := kG.cell
              have qY := kY.cell
              have qM := kM.cell
              have qO := kO.cell
              have fO := kO.free
              have lO := kO.lt
              have lY := kY.lt
              have lM := kM.lt
              have lR := kR.lt
              have lX := kX.lt
              have lG := kG.lt
              have lz := lt_of_cell e5
              dsimp only at lz
              clear hd hz hsv hze hzc hOR hsz hq4 hpv
              go_wp2_with fail
              go_region
              all_goals go_wp2_with fail
              have hWi : Within gO (gO + 1) wr ((((wr.setCell ⟨gO, q * 4, none⟩ (.int .i64 d.kind)).setCell ⟨gO, q * 4 + 1, none⟩ (.slice ap d.pins.length cp)).setCell ⟨gO, q * 4 + 2, none⟩ (.int .i64 d.wd)).setCell ⟨gO, q * 4 + 3, none⟩ (.int .i64 d.len)) := ((((Within.refl gO (gO + 1) wr).set gO _ _ (Nat.le_refl _) (by omega)).set gO _ _ (Nat.le_refl _) (by omega)).set gO _ _ (Nat.le_refl _) (by omega)).set gO _ _ (Nat.le_refl _) (by omega)
              have kO4 : Blk ((((wr.setCell ⟨gO, q * 4, none⟩ (.int .i64 d.kind)).setCell ⟨gO, q * 4 + 1, none⟩ (.slice ap d.pins.length cp)).setCell ⟨gO, q * 4 + 2, none⟩ (.int .i64 d.wd)).setCell ⟨gO, q * 4 + 3, none⟩ (.int .i64 d.len)) gO (putA4 cs q (.int .i64 d.kind) (.slice ap d.pins.length cp) (.int .i64 d.wd) (.int .i64 d.len)) 62 := (((kO.set _ _).set _ _).set _ _).set _ _
              generalize (((wr.setCell ⟨gO, q * 4, none⟩ (.int .i64 d.kind)).setCell ⟨gO, q * 4 + 1, none⟩ (.slice ap d.pins.length cp)).setCell ⟨gO, q * 4 + 2, none⟩ (.int .i64 d.wd)).setCell ⟨gO, q * 4 + 3, none⟩ (.int .i64 d.len) = wS at *
              have hbS : Below wS.heap.size wS (wS.alloc (.cells #[.int .i64 d.kind, .slice ap d.pins.length cp, .int .i64 d.wd, .int .i64 d.len] 62)).drew := ((Below.refl _ _).alloc (Nat.le_refl _) _).drew
              have hbW := hWi.below hb (by omega)
              refine ⟨⟨k + 1, by omega, by go_num, Blk.by hbS (hWi.blk kX (by omega)), Blk.by hbS (hWi.blk kY (by omega)), Blk.by hbS (hWi.blk kM (by omega)), Blk.by hbS (hWi.blk kR (by omega)), ⟨_, Blk.by hbS kO4, by rw [size_putA4]; exact HSZ.out, Lib.hid (fun i z x hik hz hx => ?_)⟩, Lib.hid ((HAT.out.past hWi (by omega)).by hbS), Lib.hid ((HPP.out.past hWi (by omega)).by hbS), hbW.trans (hbS.mono (by have := hbW.size; omega))⟩, by simp [intOf]; omega⟩
              by_cases e : i = k
              · subst e
                rw [HZK.out] at hz
                rw [HD.out] at hx
                cases hz
                cases hx
                rw [HPV.out, Int.toNat_natCast]
                exact putA4_same _ _ _ _ HQ.out
              · refine putA4_other _ _ _ _ (fun e' => ?_) (HC.out i z x (by omega) hz hx)
                have hz0 := (permB_iff.1 HP2R.out).2.2 z (List.mem_of_getElem? hz)
                obtain rfl : z = q := by omega
                have := permB_dup (n := (RD.length : Int)) (show i < k by omega) hz HZK.out
                rw [HP2R.out] at this
                cases this
            · obtain rfl : k = RD.length := by omega
              have hXD : OwnDsX wr w3.heap.size Y P (.slice (some ⟨gO, 0, none⟩) RD.length c3) (ordD zs RD) := by
                refine .inr ⟨gO, c3, cs, fun i => f ((invS zs).getD i 0).toNat, by rw [length_ordD, HZR.out], ⟨⟨by omega, by omega⟩, hgP⟩, by rw [length_ordD, HZR.out]; exact hcap, hmax, kO, fun i x hx => ?_, fun i i' hi1 hi2 hne' => ?_⟩
                · obtain ⟨j, q1, q2, q3⟩ := ordD_inv HP2R.out i x hx
                  have hin : (invS zs).getD i 0 = (j : Int) := by simp [List.getD_eq_getElem?_getD, q1]
                  have hC4 := HC.out j i x (List.getElem?_eq_some_iff.1 q3).1 q2 q3
                  rw [Int.toNat_natCast] at hC4
                  obtain ⟨_, hOR, hf⟩ := HAT.out j x q3
                  (try dsimp only)
                  rw [hin, Int.toNat_natCast]
                  exact ⟨⟨pv j, hC4, hOR⟩, by omega, by omega, by omega, by omega⟩
                · rw [length_ordD] at hi1 hi2
                  obtain ⟨x1, hx1⟩ : ∃ x1, (ordD zs RD)[i]? = some x1 := ⟨(ordD zs RD)[i]'(by rw [length_ordD]; exact hi1), List.getElem?_eq_getElem _⟩
                  obtain ⟨x2, hx2⟩ : ∃ x2, (ordD zs RD)[i']? = some x2 := ⟨(ordD zs RD)[i']'(by rw [length_ordD]; exact hi2), List.getElem?_eq_getElem _⟩
                  obtain ⟨j1, q1, q2, q3⟩ := ordD_inv HP2R.out i x1 hx1
                  obtain ⟨j2, r1, r2, r3⟩ := ordD_inv HP2R.out i' x2 hx2
                  have e1 : (invS zs).getD i 0 = (j1 : Int) := by simp [List.getD_eq_getElem?_getD, q1]
                  have e2 : (invS zs).getD i' 0 = (j2 : Int) := by simp [List.getD_eq_getElem?_getD, r1]
                  (try dsimp only)
                  rw [e1, e2, Int.toNat_natCast, Int.toNat_natCast]
                  refine HINJ.out j1 j2 (List.getElem?_eq_some_iff.1 q3).1 (List.getElem?_eq_some_iff.1 r3).1 (fun e => hne' ?_)
                  subst e
                  exact invS_inj HP2R.out i i' _ q1 r1
              have HXD := Lib.hid hXD
              have qY := kY.cell
              have lY := kY.lt
              have qR := kR.cell
              have fR := kR.free
              have lR := kR.lt
              clear hXD
              go_wp2
              refine bodyPost_ret (v := .tuple #[.agg #[.int .i64 (m : Int), .slice (some ⟨gO, 0, none⟩) RD.length c3, .slice a4 RP.length c4], .int .i64 0]) (by simp [results, Tryz.results30, go_sem, *]) rfl ⟨_, rfl, ⟨_, _, P, rfl, ?_, ?_, ⟨by omega, by simp; omega⟩⟩, blwT⟩
              · refine OwnDsX.wide (lo := w3.heap.size) (hi := Y) ?_ (by omega) (by simp; omega)
                exact ((HXD.out.past (Within.off _) (by omega)).past (Within.off _) (by omega)).past (Within.off _) (by omega)
              · exact ((HPP.out.past (Within.off _) (by omega)).past (Within.off _) (by omega)).past (Within.off _) (by omega)
  · rw [if_neg hb] at hrc hrr
    have hbf : nlB x = false := by simpa using hb
    rw [hbf] at HV
    subst hrc hrr
    clear h hm1 hm2 hok hnn hb hbf
    go_enter Tryz.func30, Tryz.ntmps30
    go_wp2_with fail
    refine (HV.out _ _ (HN.out.by blwT)).mono ?_
    rintro e w1 ⟨rfl, hb1⟩
    have kR : Blk w1 (w.heap.size + 1 + 1) #[.int .i64 0, .slice none 0 0, .slice none 0 0] 35 := blkT
    have hW : Below w.heap.size w w1 := blwT
    have qR := kR.cell
    have fR := kR.free
    have lR := kR.lt
    clear hb1
    go_wp2
    exact bodyPost_ret (v := .tuple #[.agg #[.int .i64 0, .slice none 0 0, .slice none 0 0], .int .i64 1]) (by simp [results, Tryz.results30, go_sem, *]) rfl ⟨_, rfl, nlZeroX _ _ _ (by simp; omega), blwT⟩
theorem wid_mem {w : World} {lo hi b n c k : Nat} {N t : Int} {s2 : Value} {y : Nl} {d : Dv} (h : OwnNlX w lo hi (.agg #[.int .i64 N, .slice (some ⟨b, 0, none⟩) n c, s2]) y) (hd : y.ds[k]? = some d) :
    NlV (w.setCell ⟨b, k * 4 + 2, none⟩ (.int .i64 (d.wd + t))) (.agg #[.int .i64 N, .slice (some ⟨b, 0, none⟩) n c, s2]) (widN y k d t) ∧ lo ≤ b ∧ b < hi := by
  obtain ⟨s1, s2', P, e, hds, hps, hP⟩ := h
  simp only [Value.agg.injEq, Array.mk.injEq, List.cons.injEq, Value.int.injEq, and_true, true_and] at e
  obtain ⟨rfl, rfl, rfl⟩ := e
  have hb : (lo ≤ b ∧ b < hi) ∧ b ≠ P := by
    rcases hds with ⟨_, _, _, h2⟩ | ⟨g, cap, cs, f, h1, h2, _⟩
    · rw [h2] at hd; simp at hd
    · obtain rfl : b = g := by injection h1 with e1; injection e1 with e1; injection e1
      exact h2
  have h1 := hds.ods.setNum k d hd 2 (d.wd + t) ⟨d.kind, d.pins, d.wd + t, d.len⟩ (.inr (.inl ⟨rfl, rfl⟩))
  have h2 := hps.past (Within.off (g := b) (o := k * 4 + 2) (w := w) (.int .i64 (d.wd + t))) (by have := hb.2; omega)
  exact ⟨⟨_, _, rfl, h1.sl, h2.sl⟩, hb.1⟩
end Go.Proofs.YtifbffianbgeaaaGreat
namespace Go.Proofs.YtifbffianbgeaaaGreat.fnChangedSize
open Go.RowKit Go.Proofs.YtifbffianbgeaaaGreat
set_option linter.unusedVariables false
set_option linter.unusedSimpArgs false
theorem excCellC {E : Nat → Prop} {w w' : World} {b o : Nat} {v : Value} (h : Exc E w w') (hc : w.cell? ⟨b, o, none⟩ = some v) (hb : ¬ E b) : w'.cell? ⟨b, o, none⟩ = some v := by
  have hl := lt_of_cell hc
  dsimp only at hl
  rw [← hc]
  unfold World.cell?
  rw [h.block b hl hb]
set_option maxRecDepth 100000 in
set_option maxHeartbeats 16000000 in
theorem walk (v0 : Value) (w : World) (n : Nat) (hB : Bytes w v0 n) :
    Calls Tryz.prog 8 #[v0] w fun e w' => e = .returned (.bool true) ∧ Below w.heap.size w w' := by
  have HB := Lib.hid hB
  have HBG := Lib.hid (fun w h => big_any v0 n w h)
  by_cases hn : 4096 < n
  · rw [decide_eq_true hn] at HBG
    clear hB hn
    go_enter Tryz.func8, Tryz.ntmps8
    go_wp2_with fail
    refine (HBG.out _ HB.out).mono ?_
    rintro e w1 ⟨rfl, rfl⟩
    go_wp2
    go_ret
    exact ⟨rfl, Below.refl _ _⟩
  · rw [decide_eq_false hn] at HBG
    have hn' : n ≤ 4096 := by omega
    have HRO := Lib.hid (fun w h => roll_any v0 n 3002 w h)
    have HDR := Lib.hid (fun w h => drawAp_own v0 n w h hn')
    have HBE := Lib.hid (fun W0 g m hm hm' w h => below_any W0 g v0 n m w h hm hm')
    clear hB hn
    go_enter Tryz.func8, Tryz.ntmps8
    go_wp2_with fail
    refine (HBG.out _ HB.out).mono ?_
    rintro e w1 ⟨rfl, rfl⟩
    go_wp2_with fail
    refine (HRO.out _ HB.out).mono ?_
    rintro e w2 ⟨rfl, ⟨sd, kd⟩, hb2⟩
    have HD2 := Lib.hid (dice_of_roll (Below.refl _ _) HB.out hn' kd hb2)
    have HB2 := Lib.hid (HB.out.by hb2)
    have hgM := kd.lt
    clear kd
    go_wp2_with fail
    refine (HDR.out _ HB2.out).mono ?_
    rintro e w3 ⟨v, u, x, z, rfl, HNO, HS, HMO, ⟨hz1, hz2⟩, hb3⟩
    have HD3 := Lib.hid (HD2.out.by hb3)
    have hb3w := below_on hb3 hb2
    have hM3 := hb3.size
    clear hb3 hb2 HB2 HD2
    obtain ⟨a1, c1, a2, c2, rfl⟩ := HNO.out.nl.sized
    obtain ⟨b1, d1, b2, d2, rfl⟩ := HMO.out.ma.sized
    have hok : ∀ p ∈ x.ps, p.ok := HS.out.2.2.2.2
    have hfit : Fits x.nets := HS.out.fits
    have HIA := Lib.hid (fun v u w h hm => implApply_any x z v u w h hm hok hfit (by omega) (by omega))
    have HIF := Lib.hid (fun hx h1 h2 => inv_facts (x := x) (z := z) hx h1 h2 hok)
    have HOK := Lib.hid (And.intro hok hfit)
    have hds10 := HS.out.2.1
    obtain ⟨N, hN⟩ : ∃ N, x.nets = N := ⟨_, rfl⟩
    obtain ⟨L1, hL⟩ : ∃ L, x.ds.length = L := ⟨_, rfl⟩
    obtain ⟨L2, hL2⟩ : ∃ L, x.ps.length = L := ⟨_, rfl⟩
    obtain ⟨p, hp⟩ : ∃ p, z.1.length = p := ⟨_, rfl⟩
    obtain ⟨q, hq⟩ : ∃ q, z.2.length = q := ⟨_, rfl⟩
    have HEQ := Lib.hid (And.intro hN (And.intro hL (And.intro hL2 (And.intro hp hq))))
    rw [hN, hL, hL2] at HNO ⊢
    rw [hL] at hds10
    rw [hp, hq] at HMO ⊢
    have hpq : p ≤ 300 ∧ q ≤ 300 := by omega
    clear hN hL hL2 hp hq hok hfit hz1 hz2
    have hal : Below w3.heap.size w3 ((w3.alloc (.cells #[.int .i64 N, .slice a1 L1 c1, .slice a2 L2 c2] 35)).alloc (.cells #[.slice b1 p d1, .slice b2 q d2] 29)) := ((Below.refl _ w3).alloc (Nat.le_refl _) _).alloc (by simp) _
    have kT4 : Blk ((w3.alloc (.cells #[.int .i64 N, .slice a1 L1 c1, .slice a2 L2 c2] 35)).alloc (.cells #[.slice b1 p d1, .slice b2 q d2] 29)) w3.heap.size #[.int .i64 N, .slice a1 L1 c1, .slice a2 L2 c2] 35 := (Blk.new _ rfl).past _
    have kU4 : Blk ((w3.alloc (.cells #[.int .i64 N, .slice a1 L1 c1, .slice a2 L2 c2] 35)).alloc (.cells #[.slice b1 p d1, .slice b2 q d2] 29)) (w3.heap.size + 1) #[.slice b1 p d1, .slice b2 q d2] 29 := Blk.new _ (by simp)
    have hs4 : ((w3.alloc (.cells #[.int .i64 N, .slice a1 L1 c1, .slice a2 L2 c2] 35)).alloc (.cells #[.slice b1 p d1, .slice b2 q d2] 29)).heap.size = w3.heap.size + 2 := by simp
    have HD4 := Lib.hid (HD3.out.by hal)
    have hb4 := below_on hal hb3w
    have hbA := Lib.hid hal
    have HS4 := Lib.hid hs4
    clear hal hb3w HD3 hs4
    have qT := kT4.cell
    have lT := kT4.lt
    have qU := kU4.cell
    have lU := kU4.lt
    go_wp2_with fail
    generalize ((w3.alloc (.cells #[.int .i64 N, .slice a1 L1 c1, .slice a2 L2 c2] 35)).alloc (.cells #[.slice b1 p d1, .slice b2 q d2] 29)) = w4 at *
    refine (HIA.out _ _ _ (HNO.out.by hbA.out).nl (HMO.out.by hbA.out).ma).mono ?_
    rintro e w5 ⟨v5, rfl, hO5, hb5⟩
    obtain ⟨a3, c3, a4, c4, rfl⟩ := hO5.nl.sized
    have HY5 := Lib.hid hO5
    have hY0 := hO5
    clear hO5
    obtain ⟨NY, hNY⟩ : ∃ N, (apR x z).nets = N := ⟨_, rfl⟩
    obtain ⟨L, hL⟩ : ∃ L, (apR x z).ds.length = L := ⟨_, rfl⟩
    obtain ⟨L4, hL4⟩ : ∃ L, (apR x z).ps.length = L := ⟨_, rfl⟩
    obtain ⟨C, hC⟩ : ∃ C, apC x z = C := ⟨_, rfl⟩
    have HSA := Lib.hid (fun v u w h hm => specApply_any x z v u w h hm HOK.out.1 HOK.out.2 (by have := HEQ.out.2.2.2; omega) (by have := HEQ.out.2.2.2; omega))
    rw [hC] at HSA
    rw [hNY, hL, hL4] at HY5 ⊢
    rw [hC]
    have HEY := Lib.hid (And.intro hNY (And.intro hL (And.intro hL4 hC)))
    clear hNY hL hL4 hC hY0
    have hal : Below w5.heap.size w5 (w5.alloc (.cells #[.int .i64 NY, .slice a3 L c3, .slice a4 L4 c4] 35)) := (Below.refl _ w5).alloc (Nat.le_refl _) _
    have kX6 : Blk (w5.alloc (.cells #[.int .i64 NY, .slice a3 L c3, .slice a4 L4 c4] 35)) w5.heap.size #[.int .i64 NY, .slice a3 L c3, .slice a4 L4 c4] 35 := Blk.new _ rfl
    have kT6 := Blk.by hal (Blk.by hb5 kT4)
    have kU6 := Blk.by hal (Blk.by hb5 kU4)
    have HD6 := Lib.hid ((HD4.out.by hb5).by hal)
    have HY6 := Lib.hid (HY5.out.by hal)
    have hb6 := below_on hal (below_on hb5 hb4)
    have HA6 := Lib.hid (below_on hal (below_on hb5 hbA.out))
    have h45 := hb5.size
    have hs6 : (w5.alloc (.cells #[.int .i64 NY, .slice a3 L c3, .slice a4 L4 c4] 35)).heap.size = w5.heap.size + 1 := by simp
    have HS6 := Lib.hid hs6
    clear qT lT qU lU hb5 kT4 kU4 HD4 HY5 hb4 hal hbA hs6
    have qT := kT6.cell
    have lT := kT6.lt
    have qU := kU6.cell
    have lU := kU6.lt
    go_wp2_with fail
    generalize w5.alloc (.cells #[.int .i64 NY, .slice a3 L c3, .slice a4 L4 c4] 35) = w6 at *
    refine (HSA.out _ _ _ (HNO.out.by HA6.out).nl (HMO.out.by HA6.out).ma).mono ?_
    rintro e w7 ⟨v7, rfl, hO7, hb7⟩
    obtain ⟨a5, c5, a6, c6, rfl⟩ := hO7.nl.sized
    rw [HEY.out.1, HEY.out.2.1, HEY.out.2.2.1]
    clear hO7
    have hal : Below w7.heap.size w7 (w7.alloc (.cells #[.int .i64 NY, .slice a5 L c5, .slice a6 L4 c6] 35)) := (Below.refl _ w7).alloc (Nat.le_refl _) _
    have kZ8 : Blk (w7.alloc (.cells #[.int .i64 NY, .slice a5 L c5, .slice a6 L4 c6] 35)) w7.heap.size #[.int .i64 NY, .slice a5 L c5, .slice a6 L4 c6] 35 := Blk.new _ rfl
    have kT8 := Blk.by hal (Blk.by hb7 kT6)
    have kX8 := Blk.by hal (Blk.by hb7 kX6)
    have HD8 := Lib.hid ((HD6.out.by hb7).by hal)
    have HY8 := Lib.hid ((HY6.out.by hb7).by hal)
    have hb8 := below_on hal (below_on hb7 hb6)
    have HA8 := Lib.hid (below_on hal (below_on hb7 HA6.out))
    have h67 := hb7.size
    have hs8 : (w7.alloc (.cells #[.int .i64 NY, .slice a5 L c5, .slice a6 L4 c6] 35)).heap.size = w7.heap.size + 1 := by simp
    have HS8 := Lib.hid hs8
    clear qT lT qU lU hb7 kT6 kU6 kX6 HD6 HY6 hb6 hal HA6 hs8
    have qT := kT8.cell
    have lT := kT8.lt
    have qX := kX8.cell
    have lX := kX8.lt
    have qZ := kZ8.cell
    have lZ := kZ8.lt
    have u1 : (C != C) = false := by simp
    have u2 : ((L : Int) != (L : Int)) = false := by simp
    by_cases hc : nlB x = true ∧ permB z.1 x.nets = true ∧ permB z.2 (x.ds.length : Int) = true
    · obtain ⟨f1, _, _, _, _, _, _, _, f9, f10⟩ := HIF.out hc.1 hc.2.1 hc.2.2
      have I0 := ap_iso hc.1 hc.2.1 hc.2.2
      have V0 := ap_valid hc.1 hc.2.1 hc.2.2
      rw [← ap_is hc.1 hc.2.1 hc.2.2] at I0 V0
      have HX := Lib.hid hc.1
      have HI0 := Lib.hid I0
      have HV0 := Lib.hid V0
      have HO0 := Lib.hid (And.intro f9 f10)
      obtain rfl : C = 0 := HEY.out.2.2.2.symm.trans f1
      have HNN := Lib.hid (show NY = N from HEY.out.1.symm.trans (I0.nets.trans HEQ.out.1))
      have HLL := Lib.hid (show L = L1 from HEY.out.2.1.symm.trans (I0.len.trans HEQ.out.2.1))
      generalize apR x z = Y at *
      clear hc f1 f9 f10 I0 V0 HIA HIF HDR HBG HB HSA
      by_cases h10 : N ≤ 10
      · have i1 : ¬ (10 : Int) < N := by omega
        have i2 : decide ((10 : Int) < N) = false := decide_eq_false i1
        have i3 : decide (N > 10) = false := decide_eq_false i1
        by_cases hL0 : L = 0
        · subst hL0
          go_wp2
          go_ret
          exact ⟨rfl, hb8⟩
        · have u3 : ((L : Int) == 0) = false := by simpa using hL0
          have hL10 : L ≤ 10 := by rw [HLL.out]; exact hds10
          have hs6 := HS6.out
          have hs4 := HS4.out
          have hs8 := HS8.out
          have gT : w3.heap.size + 1 < w4.heap.size := by omega
          have gX : w5.heap.size < w7.heap.size := by omega
          have gg : w.heap.size < w3.heap.size := by omega
          have gZ : w7.heap.size < (w7.alloc (.cells #[.int .i64 NY, .slice a5 L c5, .slice a6 L4 c6] 35)).heap.size := by omega
          clear hs4 hs6 hs8
          go_wp2_with fail
          generalize w7.alloc (.cells #[.int .i64 NY, .slice a5 L c5, .slice a6 L4 c6] 35) = w8 at *
          refine (HBE.out w w.heap.size (L : Int) (by omega) (by omega) _ HD8.out).mono ?_
          rintro e w9 ⟨rr, rfl, hr0, hr1, HD9, ho9⟩
          obtain ⟨k, rfl⟩ := Int.eq_ofNat_of_zero_le hr0
          have hkL : k < L := by omega
          obtain ⟨d, hd⟩ : ∃ d, Y.ds[k]? = some d := ⟨Y.ds[k]'(by rw [HEY.out.2.1]; exact hkL), List.getElem?_eq_getElem _⟩
          have hwn : Within w.heap.size (w.heap.size + 1) w8 w9 := ⟨ho9.os, ho9.tape, ho9.output, Nat.le_of_eq ho9.size.symm, fun b _ hne => ho9.block b (by omega)⟩
          have HY9 := Lib.hid (HY8.out.past hwn (.inr (by omega)))
          have kT9 := ho9.blk kT8 (by omega)
          have kX9 := ho9.blk kX8 (by omega)
          have h98 : w9.heap.size = w8.heap.size := ho9.size
          have HE9 : Hid (Exc (fun b => b = w.heap.size) w3 w9) := Lib.hid ((Exc.ofBelow HA8.out).thn (Exc.ofWithin (E := fun b => b = w.heap.size) hwn (fun b h1 h2 => by show b = w.heap.size; omega)) (fun b _ h => h))
          have hb9 : Below w.heap.size w w9 := ho9.below hb8 (Nat.le_refl _)
          have HDD := Lib.hid HD9
          obtain ⟨s1, s2, P, e0, hDX, hPX, hPr⟩ := HY9.out
          simp only [Value.agg.injEq, Array.mk.injEq, List.cons.injEq, and_true] at e0
          obtain ⟨e01, e02, e03⟩ := e0
          subst e02 e03
          clear e01
          rcases hDX with ⟨_, _, _, h0⟩ | ⟨g3, cap, cs3, f3, e3, ⟨hg3, hgP⟩, _, _, kG, h6, _⟩
          · rw [h0] at hd
            exact absurd hd (by simp)
          injection e3 with e3a e3b e3c
          clear e3b
          subst e3a e3c
          obtain ⟨⟨pv, ⟨x0, x1, x2, x3⟩, hOR⟩, _⟩ := h6 k d hd
          have HD := Lib.hid hd
          have yc0 := (kG.cell _).trans x0
          have yc2 := (kG.cell _).trans x2
          have lg := kG.lt
          have fG := kG.free (k * 4 + 2)
          have H98 := Lib.hid h98
          have HWN := Lib.hid hwn
          have j1 : (0 : Int) ≤ (k : Int) := by omega
          have j2 : (k : Int) < (L : Int) := by omega
          clear h6 hPX hOR x0 x1 x2 x3 hd hwn h98 HD9 ho9 qT lT qX lX qZ lZ kT8 kX8 kZ8 hb8 HD8 HY8 hr0 hr1 u1 u2 u3
          have qT := kT9.cell
          have lT := kT9.lt
          have qX := kX9.cell
          have lX := kX9.lt
          obtain ⟨kind, hkind⟩ : ∃ q, d.kind = q := ⟨_, rfl⟩
          obtain ⟨wd, hwd⟩ : ∃ q, d.wd = q := ⟨_, rfl⟩
          have HDK := Lib.hid (And.intro hkind hwd)
          rw [hkind] at yc0
          rw [hwd] at yc2
          clear hkind hwd
          by_cases hk2 : kind = 2
          · subst hk2
            go_wp2
            go_ret
            exact ⟨rfl, hb9⟩
          · have v1 : (kind == 2) = false := by simpa using hk2
            have HK2 := Lib.hid hk2
            clear hk2
            by_cases hw : 1000 < wd
            · have v2 : decide ((1000 : Int) < wd) = true := decide_eq_true hw
              have v3 : decide (wd > 1000) = true := decide_eq_true hw
              go_wp2
              go_ret
              exact ⟨rfl, hb9⟩
            · have v2 : decide ((1000 : Int) < wd) = false := decide_eq_false hw
              have v3 : decide (wd > 1000) = false := decide_eq_false hw
              have hwb : 1 ≤ wd := by
                have h1 := (nlB_facts HV0.out).2.2.2.1 d (List.mem_of_getElem? HD.out)
                obtain ⟨_, _, a3, _, _, _⟩ := dvB_all h1
                have := inB_iff.1 a3
                rw [HDK.out.2] at this
                omega
              have hwm : wd ≤ 1000 := by omega
              clear hw
              go_upto_region 14 with fail
              clear qT lT qX lX
              have hS : (fun w' : World => Exc (fun b => b = w.heap.size) w9 w') { w9 with drawn := w9.drawn + 1 } := (Exc.refl _ w9).drew
              refine wp_region_any (by kernel_rfl) (wpAny_of_E (S := fun w' : World => Exc (fun b => b = w.heap.size) w9 w') (l := 15) _ _ _ _ ?_)
              change wpAnyE _ _ _ _ _ _ _ _ _ w9.drew
              refine wpAnyE_takeL (i := 0) (v := ?_) rfl (by kernel_rfl) (fun _ _ _ h => h) (Or.inl ⟨by rfl, ?_⟩) hS ?_
              rotate_left
              · intro w hSw; (try dsimp only at hSw); have qX := (hSw.blk kX9 (by omega)).cell; have lX := (hSw.blk kX9 (by omega)).lt; have y2 := excCellC hSw yc2 (by omega); clear hSw; go_simp; (try with_reducible rfl)
              try simp only [Act.put, List.setIfInBounds_toArray, List.set_cons_zero, List.set_cons_succ]
              refine wpAnyE_takeL (i := 1) (v := ?_) rfl (by kernel_rfl) (fun _ _ _ h => h) (Or.inl ⟨by rfl, ?_⟩) hS ?_
              rotate_left
              · intro w hSw; (try dsimp only at hSw); have qX := (hSw.blk kX9 (by omega)).cell; have lX := (hSw.blk kX9 (by omega)).lt; have y2 := excCellC hSw yc2 (by omega); clear hSw; go_simp; (try with_reducible rfl)
              try simp only [Act.put, List.setIfInBounds_toArray, List.set_cons_zero, List.set_cons_succ]
              refine wpAnyE_takeL (i := 2) (v := ?_) rfl (by kernel_rfl) (fun _ _ _ h => h) (Or.inl ⟨by rfl, ?_⟩) hS ?_
              rotate_left
              · intro w hSw; (try dsimp only at hSw); have qX := (hSw.blk kX9 (by omega)).cell; have lX := (hSw.blk kX9 (by omega)).lt; have y2 := excCellC hSw yc2 (by omega); clear hSw; go_simp; (try with_reducible rfl)
              try simp only [Act.put, List.setIfInBounds_toArray, List.set_cons_zero, List.set_cons_succ]
              refine wpAnyE_takeL (i := 3) (v := ?_) rfl (by kernel_rfl) (fun _ _ _ h => h) (Or.inl ⟨by rfl, ?_⟩) hS ?_
              rotate_left
              · intro w hSw; (try dsimp only at hSw); have qX := (hSw.blk kX9 (by omega)).cell; have lX := (hSw.blk kX9 (by omega)).lt; have y2 := excCellC hSw yc2 (by omega); clear hSw; go_simp; (try with_reducible rfl)
              try simp only [Act.put, List.setIfInBounds_toArray, List.set_cons_zero, List.set_cons_succ]
              refine wpAnyE_takeL (i := 4) (v := ?_) rfl (by kernel_rfl) (fun _ _ _ h => h) (Or.inl ⟨by rfl, ?_⟩) hS ?_
              rotate_left
              · intro w hSw; (try dsimp only at hSw); have qX := (hSw.blk kX9 (by omega)).cell; have lX := (hSw.blk kX9 (by omega)).lt; have y2 := excCellC hSw yc2 (by omega); clear hSw; go_simp; (try with_reducible rfl)
              try simp only [Act.put, List.setIfInBounds_toArray, List.set_cons_zero, List.set_cons_succ]
              refine wpAnyE_takeL (i := 5) (v := ?_) rfl (by kernel_rfl) (fun _ _ _ h => h) (Or.inl ⟨by rfl, ?_⟩) hS ?_
              rotate_left
              · intro w hSw; (try dsimp only at hSw); have qX := (hSw.blk kX9 (by omega)).cell; have lX := (hSw.blk kX9 (by omega)).lt; have y2 := excCellC hSw yc2 (by omega); clear hSw; go_simp; (try with_reducible rfl)
              try simp only [Act.put, List.setIfInBounds_toArray, List.set_cons_zero, List.set_cons_succ]
              refine wpAnyE_takeL (i := 6) (v := ?_) rfl (by kernel_rfl) (fun _ _ _ h => h) (Or.inl ⟨by rfl, ?_⟩) hS ?_
              rotate_left
              · intro w hSw; (try dsimp only at hSw); have qX := (hSw.blk kX9 (by omega)).cell; have lX := (hSw.blk kX9 (by omega)).lt; have y2 := excCellC hSw yc2 (by omega); clear hSw; go_simp; (try with_reducible rfl)
              try simp only [Act.put, List.setIfInBounds_toArray, List.set_cons_zero, List.set_cons_succ]
              refine wpAnyE_takeL (i := 7) (v := ?_) rfl (by kernel_rfl) (fun _ _ _ h => h) (Or.inl ⟨by rfl, ?_⟩) hS ?_
              rotate_left
              · intro w hSw; (try dsimp only at hSw); have qX := (hSw.blk kX9 (by omega)).cell; have lX := (hSw.blk kX9 (by omega)).lt; have y2 := excCellC hSw yc2 (by omega); clear hSw; go_simp; (try with_reducible rfl)
              try simp only [Act.put, List.setIfInBounds_toArray, List.set_cons_zero, List.set_cons_succ]
              refine wpAnyE_takeL (i := 8) (v := ?_) rfl (by kernel_rfl) (fun _ _ _ h => h) (Or.inl ⟨by rfl, ?_⟩) hS ?_
              rotate_left
              · intro w hSw; (try dsimp only at hSw); have qX := (hSw.blk kX9 (by omega)).cell; have lX := (hSw.blk kX9 (by omega)).lt; have y2 := excCellC hSw yc2 (by omega); clear hSw; go_simp; (try with_reducible rfl)
              try simp only [Act.put, List.setIfInBounds_toArray, List.set_cons_zero, List.set_cons_succ]
              refine wpAnyE_takeL (i := 9) (v := ?_) rfl (by kernel_rfl) (fun _ _ _ h => h) (Or.inl ⟨by rfl, ?_⟩) hS ?_
              rotate_left
              · intro w hSw; (try dsimp only at hSw); have qX := (hSw.blk kX9 (by omega)).cell; have lX := (hSw.blk kX9 (by omega)).lt; have y2 := excCellC hSw yc2 (by omega); clear hSw; go_simp; (try with_reducible rfl)
              try simp only [Act.put, List.setIfInBounds_toArray, List.set_cons_zero, List.set_cons_succ]
              refine wpAnyE_takeL (i := 10) (v := ?_) rfl (by kernel_rfl) (fun _ _ _ h => h) (Or.inl ⟨by rfl, ?_⟩) hS ?_
              rotate_left
              · intro w hSw; (try dsimp only at hSw); have qX := (hSw.blk kX9 (by omega)).cell; have lX := (hSw.blk kX9 (by omega)).lt; have y2 := excCellC hSw yc2 (by omega); clear hSw; go_simp; (try with_reducible rfl)
              try simp only [Act.put, List.setIfInBounds_toArray, List.set_cons_zero, List.set_cons_succ]
              refine wpAnyE_oneL (k := 11) (by kernel_rfl) rfl (fun K hK => ?_)
              go_simp
              go_at_call 31
              refine (HBE.out w w.heap.size 3 (by decide) (by decide) _ (HDD.out.drewN 1)).mono ?_
              rintro e w10 ⟨r3, rfl, hr0, hr1, HD10, ho10⟩
              have hwn2 : Within w.heap.size (w.heap.size + 1) w9 w10 := ⟨ho10.os, ho10.tape, ho10.output, Nat.le_of_eq ho10.size.symm, fun b _ hne => ho10.block b (by omega)⟩
              have hSb : Exc (fun b => b = w.heap.size) w9 w10 := Exc.ofWithin hwn2 (fun b h1 h2 => by show b = w.heap.size; omega)
              clear HD10 ho10
              refine hK.out _ _ (fun _ => hSb) ?_
              try simp only [Act.put, List.setIfInBounds_toArray, List.set_cons_zero, List.set_cons_succ]
              refine wpAnyE_takeL (i := 12) (v := ?_) rfl (by kernel_rfl) (fun _ _ _ h => h) (Or.inl ⟨by rfl, ?_⟩) hSb ?_
              rotate_left
              · intro w hSw; (try dsimp only at hSw); have qX := (hSw.blk kX9 (by omega)).cell; have lX := (hSw.blk kX9 (by omega)).lt; have y2 := excCellC hSw yc2 (by omega); clear hSw; go_simp; (try with_reducible rfl)
              try simp only [Act.put, List.setIfInBounds_toArray, List.set_cons_zero, List.set_cons_succ]
              refine wpAnyE_takeL (i := 13) (v := ?_) rfl (by kernel_rfl) (fun _ _ _ h => h) (Or.inl ⟨by rfl, ?_⟩) hSb ?_
              rotate_left
              · intro w hSw; (try dsimp only at hSw); have qX := (hSw.blk kX9 (by omega)).cell; have lX := (hSw.blk kX9 (by omega)).lt; have y2 := excCellC hSw yc2 (by omega); clear hSw; go_simp; (try with_reducible rfl)
              try simp only [Act.put, List.setIfInBounds_toArray, List.set_cons_zero, List.set_cons_succ]
              refine wpAnyE_takeL (i := 14) (v := ?_) rfl (by kernel_rfl) (fun _ _ _ h => h) (Or.inl ⟨by rfl, ?_⟩) hSb ?_
              rotate_left
              · intro w hSw; (try dsimp only at hSw); have qX := (hSw.blk kX9 (by omega)).cell; have lX := (hSw.blk kX9 (by omega)).lt; have y2 := excCellC hSw yc2 (by omega); clear hSw; go_simp; (try with_reducible rfl)
              try simp only [Act.put, List.setIfInBounds_toArray, List.set_cons_zero, List.set_cons_succ]
              refine wpAnyE_oneL (k := 15) (by kernel_rfl) rfl (fun K hK => ?_)
              have kG10 := hwn2.blk kG (by omega)
              have c22 := excCellC hSb yc2 (by omega)
              have fG2 := kG10.free (k * 4 + 2)
              have lG2 := kG10.lt
              go_simp
              refine hK.out _ _ (fun h => absurd rfl h) ?_
              refine wpAnyE_done (by kernel_rfl) ?_ _
              have kT10 := hwn2.blk kT9 (by omega)
              have kX10 := hwn2.blk kX9 (by omega)
              have hM := (wid_mem (t := 1 + r3) (HY9.out.past hwn2 (.inr (by omega))) HD.out).1
              have he : d.wd + (1 + r3) = wd + 1 + r3 := by rw [HDK.out.2]; omega
              rw [he] at hM
              have HM := Lib.hid hM
              have kT11 : Blk (w10.setCell ⟨g3, k * 4 + 2, none⟩ (.int .i64 (wd + 1 + r3))) w3.heap.size #[.int .i64 N, .slice a1 L1 c1, .slice a2 L2 c2] 35 := (hwn2.blk kT9 (by omega)).apart _ _ _ (by omega)
              have kX11 : Blk (w10.setCell ⟨g3, k * 4 + 2, none⟩ (.int .i64 (wd + 1 + r3))) w5.heap.size #[.int .i64 NY, .slice (some ⟨g3, 0, none⟩) L c3, .slice a4 L4 c4] 35 := (hwn2.blk kX9 (by omega)).apart _ _ _ (by omega)
              have hE11 : Exc (fun b => b = w.heap.size) w3 (w10.setCell ⟨g3, k * 4 + 2, none⟩ (.int .i64 (wd + 1 + r3))) := (HE9.out.thn hSb (fun b _ h => h)).set _ _ _ (fun h => by omega)
              have HNX := Lib.hid (NlO.excB hE11 HNO.out (fun b h1 h2 h3 => by omega)).nl
              have hb11 : Below w.heap.size w (w10.setCell ⟨g3, k * 4 + 2, none⟩ (.int .i64 (wd + 1 + r3))) := (hwn2.below hb9 (Nat.le_refl _)).setCell (by show w.heap.size ≤ g3; omega) _
              have hsm : x.nets ≤ 10 ∧ x.ds.length ≤ 10 := ⟨by rw [HEQ.out.1]; exact h10, by rw [HEQ.out.2.1]; exact hds10⟩
              obtain ⟨F1, F2, F3⟩ := wid_fin (t := 1 + r3) HI0.out HX.out HV0.out HD.out (by rw [HDK.out.1]; exact HK2.out) (by rw [HDK.out.2]; exact hwm) (by omega) (by omega) hsm
              have hyo : ∀ p ∈ (widN Y k d (1 + r3)).ps, p.ok := HO0.out.1
              have hyf : Fits (widN Y k d (1 + r3)).nets := HO0.out.2
              have HC1 := Lib.hid (fun v u w h h' => implCmpNl_any x (widN Y k d (1 + r3)) v u w h h' HOK.out.1 HOK.out.2 hyo hyf)
              have HX1 := fun v u w h h' => implExp_any x (widN Y k d (1 + r3)) v u w h h' HOK.out.1 HOK.out.2 hyo hyf
              rw [F1] at HC1
              rw [F2, F3] at HX1
              obtain ⟨m1, hm1⟩ : ∃ m, (expR x (widN Y k d (1 + r3))).1.2.1 = m := ⟨_, rfl⟩
              obtain ⟨m2, hm2⟩ : ∃ m, (expR x (widN Y k d (1 + r3))).1.2.2 = m := ⟨_, rfl⟩
              rw [hm1, hm2] at HX1
              have HX2 := Lib.hid HX1
              generalize cmpR x (widN Y k d (1 + r3)) = R1 at *
              generalize widN Y k d (1 + r3) = V at *
              clear hS hSb hwn2 kG10 c22 fG2 lG2 hM he hE11 hsm F1 F2 F3 hyo hyf HX1 hm1 hm2 yc0 yc2 lg fG kG kT9 kX9 hb9 v1 v2 v3 j1 j2
              have qT := kT10.cell
              have lT := kT10.lt
              have qX := kX10.cell
              have lX := kX10.lt
              have n1 : ¬ g3 = w3.heap.size := by omega
              have n2 : ¬ w3.heap.size = g3 := by omega
              have n3 : ¬ g3 = w5.heap.size := by omega
              have n4 : ¬ w5.heap.size = g3 := by omega
              go_wp2_with fail
              generalize w10.setCell ⟨g3, k * 4 + 2, none⟩ (.int .i64 (wd + 1 + r3)) = w11 at *
              refine (HC1.out _ _ _ HNX.out HM.out).mono ?_
              rintro e wA ⟨vA, rfl, hOA, hbA⟩
              obtain ⟨f1, g1, f2, g2, rfl⟩ := hOA.ma.sized
              obtain ⟨r1, hr1⟩ : ∃ r, R1.1.length = r := ⟨_, rfl⟩
              obtain ⟨r2, hr2⟩ : ∃ r, R1.2.length = r := ⟨_, rfl⟩
              rw [hr1, hr2]
              have hal : Below wA.heap.size wA (wA.alloc (.cells #[.slice f1 r1 g1, .slice f2 r2 g2] 29)) := (Below.refl _ wA).alloc (Nat.le_refl _) _
              have kTA := Blk.by hal (Blk.by hbA kT11)
              have kXA := Blk.by hal (Blk.by hbA kX11)
              have HNA := Lib.hid ((HNX.out.by hbA).by hal)
              have HVA := Lib.hid ((HM.out.by hbA).by hal)
              have hWA := below_on hal (below_on hbA hb11)
              clear qT lT qX lX hOA hbA hr1 hr2 hal HNX HM kT11 kX11 hb11 kT10 kX10 n1 n2 n3 n4
              have qT := kTA.cell
              have lT := kTA.lt
              have qX := kXA.cell
              have lX := kXA.lt
              go_wp2_with fail
              generalize wA.alloc (.cells #[.slice f1 r1 g1, .slice f2 r2 g2] 29) = wB at *
              generalize wA.heap.size = FB at *
              refine (HX2.out _ _ _ HNA.out HVA.out).mono ?_
              rintro e wC ⟨rfl, hbC⟩
              have hWC := below_on hbC hWA
              have kM : Blk (wC.alloc (.cells #[.int .i64 4, .int .i64 m1, .int .i64 m2] 43)) wC.heap.size #[.int .i64 4, .int .i64 m1, .int .i64 m2] 43 := Blk.new _ rfl
              have hWD : Below w.heap.size w (wC.alloc (.cells #[.int .i64 4, .int .i64 m1, .int .i64 m2] 43)) := below_on ((Below.refl _ wC).alloc (Nat.le_refl _) _) hWC
              clear qT lT qX lX hbC kTA kXA
              have qM := kM.cell
              have lM := kM.lt
              go_wp2
              go_ret
              exact ⟨rfl, hWD⟩
      · have i1 : (10 : Int) < N := by omega
        have i2 : decide ((10 : Int) < N) = true := decide_eq_true i1
        have i3 : decide (N > 10) = true := decide_eq_true i1
        go_wp2
        go_ret
        exact ⟨rfl, hb8⟩
    · have e1 := (inv_bad hc).1
      rw [HEY.out.2.2.2] at e1
      have e3 : (C != 0) = true := by simpa using e1
      have e4 : (C == 0) = false := by simpa using e1
      clear hc e1
      go_wp2
      go_ret
      exact ⟨rfl, hb8⟩
end Go.Proofs.YtifbffianbgeaaaGreat.fnChangedSize
