/- The reference's ColorClasses. -/
import Derived.Test.YtjldkejegdljiaaClsM
import Derived.Test.YtjldkejegdljiaaDifs
import Derived.Test.YtjldkejegdljiaaSpecRk
import Derived.Test.YtjldkejegdljiaaNetBs
namespace Go.Proofs.Ytjldkejegdljiaa
open Go.RowKit
set_option linter.unusedVariables false
set_option linter.unusedSimpArgs false

theorem ownR_one' {w : World} {g : Nat} {z : Int} (h : Blk w g #[.int .i64 z] 2) : OwnR w g (g + 1) (.slice (some ⟨g, 0, none⟩) 1 1) [z] := by
  refine .inr ⟨g, 1, _, rfl, Nat.le_refl _, Nat.lt_succ_self _, Nat.le_refl _, by unfold maxLen; omega, h, fun i x hx => ?_⟩
  match i, hx with
  | 0, hx => simp at hx; subst hx; rfl

set_option maxRecDepth 100000 in
set_option maxHeartbeats 4000000 in
theorem specCls_any (sv : Value) (zs : List Int) (w : World) (h : IntSl w sv zs) (hl : zs.length ≤ 1048576) :
    Calls Try.prog 16 #[sv] w fun e w' => ∃ v, e = .returned v ∧ BldL w' w.heap.size w'.heap.size v (clsS zs) ∧ Below w.heap.size w w' := by
  have H := Lib.hid h
  obtain ⟨a, c, rfl⟩ := h.len
  by_cases h24 : 24 < zs.length
  · have i1 : (24 : Int) < (zs.length : Int) := by omega
    have hc : clsS zs = [] := by unfold clsS; rw [if_neg (by omega)]
    rw [hc]
    clear h hc
    go_enter Try.func16, Try.ntmps16
    go_wp2
    go_ret
    exact ⟨_, rfl, BldL.lit (Blk.new _ rfl) (Nat.le_refl _) (by simp) (Nat.le_refl _), (by ((repeat (first | (with_reducible exact Below.refl _ _) | (with_reducible refine below_drewN ?_ _) | (with_reducible refine Below.drew ?_) | (with_reducible refine below_al ?_ _) | (with_reducible refine below_on (by assumption) ?_) | ((with_reducible refine Below.setCell ?_ ?_ _); rotate_left; focus (first | omega | (simp; done) | (simp; omega))) | (with_reducible assumption))); done))⟩
  · have i1 : ¬ (24 : Int) < (zs.length : Int) := by omega
    have hc : clsS zs = clsL zs := by unfold clsS; rw [if_pos (by omega)]
    rw [hc]
    obtain ⟨LS, hLS⟩ : ∃ L, (zs.map fun z => [z]) = L := ⟨_, rfl⟩
    have hLl : LS.length = zs.length := by rw [← hLS]; simp
    have HLT := Lib.hid (fun k z (hz : zs[k]? = some z) => show LS.take (k + 1) = LS.take k ++ [[z]] from take_snoc_of LS k _ (by rw [← hLS]; simp [hz]))
    have HLL := Lib.hid hLl
    obtain ⟨RK, hRK⟩ : ∃ R, rankS LS = R := ⟨_, rfl⟩
    have hRl : RK.length = zs.length := by rw [← hRK, length_rankS]; exact hLl
    have HRS := Lib.hid (fun sv w h => specRanks_any LS sv w h (by omega))
    rw [hRK] at HRS
    obtain ⟨CL, hCL⟩ : ∃ C, clsL zs = C := ⟨_, rfl⟩
    have hCl : CL.length = difI zs := by rw [← hCL]; unfold clsL; rw [List.length_map, length_colA]
    have HRL := Lib.hid hRl
    have HDF := Lib.hid (fun w => l29Different_any (.slice a zs.length c) zs w)
    have HCOL := Lib.hid (fun r (hr : r < difI zs) => show ∃ x, (∀ (i : Nat) z v, zs[i]? = some z → RK[i]? = some v → (v = (r : Int) ↔ z = x)) ∧ CL.take (r + 1) = CL.take r ++ [clsTo zs x zs.length] by
      obtain ⟨x, hx⟩ : ∃ x, (colA zs)[r]? = some x := ⟨(colA zs)[r]'(by rw [length_colA]; exact hr), List.getElem?_eq_getElem _⟩
      refine ⟨x, fun i z v hz hv => rank_is hz hx (by rw [hLS, hRK]; exact hv), take_snoc_of CL r _ ?_⟩
      rw [← hCL]
      unfold clsL
      rw [List.getElem?_map, hx]
      rfl)
    have HST := Lib.hid (fun x k z h => clsTo_step zs x k z h)
    have HLE := Lib.hid (fun x k => clsTo_len zs x k)
    have HC0 := Lib.hid (fun x => show clsTo zs x 0 = [] from rfl)
    rw [hCL]
    have hdl : difI zs ≤ 24 := by have := difI_le zs; omega
    obtain ⟨D, hD⟩ : ∃ D, difI zs = D := ⟨_, rfl⟩
    rw [hD] at hCl HDF HCOL hdl
    have HCL := Lib.hid hCl
    clear h hc hLS hLl hRK hRl hCL hCl hD
    go_enter Try.func16, Try.ntmps16
    go_wp2
    go_loopw [4, 5] (fun u i wr => ∃ (k hi : Nat), k ≤ zs.length ∧ i = .int .i64 (k : Int) ∧ Hid (BldL wr (w.heap.size + 1) hi u (LS.take k)) ∧ w.heap.size + 1 < hi ∧ Blk wr w.heap.size #[] 39 ∧ Below w.heap.size w wr) (fun _ i _ => zs.length - (intOf i).toNat)
    case atStart =>
      refine ⟨0, w.heap.size + 1 + 1, Nat.zero_le _, rfl, Lib.hid ?_, by omega, (by ((repeat (first | (with_reducible assumption) | (with_reducible refine Blk.drewN ?_ _) | (with_reducible refine Blk.drew ?_) | ((with_reducible refine Blk.new _ ?_); focus (first | omega | (simp; done) | (simp; omega))) | (with_reducible refine Blk.past ?_ _) | ((with_reducible refine Blk.apart ?_ _ _ _ ?_); rotate_left; focus (first | omega | (simp; done) | (simp; omega))) | (with_reducible refine Blk.by (by assumption) ?_))); done)), (by ((repeat (first | (with_reducible exact Below.refl _ _) | (with_reducible refine below_drewN ?_ _) | (with_reducible refine Below.drew ?_) | (with_reducible refine below_al ?_ _) | (with_reducible refine below_on (by assumption) ?_) | ((with_reducible refine Below.setCell ?_ ?_ _); rotate_left; focus (first | omega | (simp; done) | (simp; omega))) | (with_reducible assumption))); done))⟩
      rw [List.take_zero]
      exact BldL.lit (Blk.new _ (by simp)) (Nat.le_refl _) (by omega) (by simp)
    case round =>
      obtain ⟨k, hi, hk, rfl, HB, hhi, kO, hb⟩ := hrel
      obtain ⟨av, cv, rfl⟩ := HB.out.sized
      have hml : (LS.take k).length = k := by rw [List.length_take, HLL.out]; omega
      rw [hml] at HB ⊢
      have HML := Lib.hid hml
      have hhs := HB.out.1
      clear hml
      by_cases hlt : k < zs.length
      · obtain ⟨z, hz⟩ : ∃ z, zs[k]? = some z := ⟨zs[k], List.getElem?_eq_getElem hlt⟩
        rcases H.out with ⟨_, _, _, e2⟩ | ⟨b, off, cap, he, _, _, h4⟩
        · rw [e2] at hz; simp at hz
        obtain ⟨rfl, rfl⟩ : a = some ⟨b, off, none⟩ ∧ c = cap := by simpa using he
        have hc := cell_by' hb (h4 k z hz)
        have HX := Lib.hid (HLT.out k z hz)
        have i2 : (0 : Int) ≤ (k : Int) := by omega
        have i3 : (k : Int) < (zs.length : Int) := by omega
        clear hz h4 he
        go_wp2_with (refine list_pushL (by rfl) _ _ (by rfl) (w.heap.size + 1) hi (.slice av k cv) (LS.take k) (by rfl) (HB.out.by (by ((repeat (first | (with_reducible exact Below.refl _ _) | (with_reducible refine below_drewN ?_ _) | (with_reducible refine Below.drew ?_) | (with_reducible refine below_al ?_ _) | (with_reducible refine below_on (by assumption) ?_) | ((with_reducible refine Below.setCell ?_ ?_ _); rotate_left; focus (first | omega | (simp; done) | (simp; omega))) | (with_reducible assumption))); done))) (wr.heap.size + 1) [z] _ wr.heap.size (by rfl) (Blk.new _ (by simp)) (ownR_one' ((Blk.new _ rfl).past _)) (by omega) (by omega) (by simp; omega) (by rw [HML.out]; omega) ?_; intro a5 c5 w5 hB5 hw5; have HB5 := Lib.hid hB5; rw [HML.out]; clear hB5)
        have hsz := hw5.size
        simp only [World.size_alloc] at hsz
        refine ⟨⟨k + 1, w5.heap.size, by omega, by go_num, Lib.hid ?_, by omega, hw5.blk ((kO.past _).past _) (by omega), hw5.below (below_al (below_al hb _) _) (by omega)⟩, by simp [intOf]; omega⟩
        rw [HX.out]
        have := HB5.out
        rw [HML.out] at this
        exact this
      · obtain rfl : k = zs.length := by omega
        have i3 : ¬ (zs.length : Int) < (zs.length : Int) := by omega
        have hLL := HB.out.ll.1
        rw [List.take_of_length_le (by rw [HLL.out]; exact Nat.le_refl _)] at hLL
        have HLX := Lib.hid hLL
        clear HB hLL
        go_wp2_with fail
        refine (HRS.out _ _ HLX.out).mono ?_
        rintro e w6 ⟨v6, rfl, hO6, hb6⟩
        have HO6 := Lib.hid hO6
        obtain ⟨a6, c6, rfl⟩ := hO6.sl.len
        rw [HRL.out] at HO6 ⊢
        have hs6 := hb6.size
        have kO6 := Blk.by hb6 kO
        have lO := kO.lt
        have hbw6 := below_on hb6 hb
        clear hO6 hb6 kO hb
        go_wp2
        go_loopw [3, 7] (fun u i wr2 => ∃ (r h2 : Nat), r ≤ D ∧ i = .int .i64 (r : Int) ∧ Hid (BldL wr2 w.heap.size h2 u (CL.take r)) ∧ w.heap.size < h2 ∧ w6.heap.size ≤ wr2.heap.size ∧ (∀ g, u.ownBlock = some g → g = w.heap.size ∨ w6.heap.size ≤ g) ∧ Off w.heap.size w6 wr2 ∧ Below w.heap.size w wr2) (fun _ i _ => D - (intOf i).toNat)
        case atStart =>
          refine ⟨0, w.heap.size + 1, Nat.zero_le _, rfl, Lib.hid ?_, by omega, Nat.le_refl _, fun g0 e0 => .inl ?_, fun q hq hne => rfl, hbw6⟩
          · rw [List.take_zero]
            exact BldL.lit kO6 (Nat.le_refl _) (by omega) (by omega)
          · have e1 : w.heap.size = g0 := by injection e0
            exact e1.symm
        case round =>
          obtain ⟨r, h2, hr, rfl, HBd, hh2, hsl, hOw, hOff, hbw⟩ := hrel
          obtain ⟨ad, cd, rfl⟩ := HBd.out.sized
          have hml : (CL.take r).length = r := by rw [List.length_take, HCL.out]; omega
          rw [hml] at HBd hOw ⊢
          have HML := Lib.hid hml
          have hIs := HBd.out.1
          clear hml
          go_wp2_with fail
          refine (HDF.out _ (H.out.by hbw) (by omega)).mono ?_
          rintro e w7 ⟨rfl, nd, rfl⟩
          by_cases hlr : r < D
          · obtain ⟨x, hrx, hcx⟩ := HCOL.out r hlr
            have HRX := Lib.hid hrx
            have HCX := Lib.hid hcx
            have i4 : (r : Int) < (D : Int) := by omega
            clear hrx hcx
            obtain ⟨wo, hwo⟩ : ∃ y : World, y = wr.drewN nd := ⟨_, rfl⟩
            have HBo : Hid (BldL wo w.heap.size h2 (.slice ad r cd) (CL.take r)) := Lib.hid (by rw [hwo]; exact HBd.out.by (below_of_drewN wr nd))
            have hOffo : Off w.heap.size w6 wo := by rw [hwo]; exact hOff
            have hbo : Below w.heap.size w wo := by rw [hwo]; exact below_on (below_of_drewN wr nd) hbw
            have hso : wo.heap.size = wr.heap.size := by rw [hwo]; rfl
            have HO6o := Lib.hid (HO6.out.same (w' := wo) (fun g g1 g2 => hOffo g (by omega) (by omega)))
            (try rw [← hwo])
            clear hwo HBd hOff hbw
            go_wp2
            go_loopw [8, 9] (fun l i wr2 => ∃ (q hj : Nat), q ≤ zs.length ∧ i = .int .i64 (q : Int) ∧ Hid (BldI wr2 wo.heap.size hj l (clsTo zs x q)) ∧ wo.heap.size < hj ∧ Below wo.heap.size wo wr2) (fun _ i _ => zs.length - (intOf i).toNat)
            case atStart =>
              refine ⟨0, wo.heap.size + 1, Nat.zero_le _, rfl, Lib.hid ?_, by omega, (by ((repeat (first | (with_reducible exact Below.refl _ _) | (with_reducible refine below_drewN ?_ _) | (with_reducible refine Below.drew ?_) | (with_reducible refine below_al ?_ _) | (with_reducible refine below_on (by assumption) ?_) | ((with_reducible refine Below.setCell ?_ ?_ _); rotate_left; focus (first | omega | (simp; done) | (simp; omega))) | (with_reducible assumption))); done))⟩
              have hB : Blk (wo.alloc (.cells #[] 2)) wr.heap.size #[] 2 := Blk.new _ hso.symm
              rw [HC0.out]
              exact BldI.lit (zs := []) hB rfl (by simp) (by omega) (by omega) (by simp)
            case round =>
              obtain ⟨q, hj, hq, rfl, HI, hjh, hb2⟩ := hrel
              obtain ⟨al, cl, rfl⟩ := HI.out.sized
              have hIs2 := HI.out.1
              have hb2s := hb2.size
              have hbw2 := below_on hb2 hbo
              by_cases hlq : q < zs.length
              · obtain ⟨z, hz⟩ : ∃ z, zs[q]? = some z := ⟨zs[q], List.getElem?_eq_getElem hlq⟩
                obtain ⟨v, hv⟩ : ∃ v, RK[q]? = some v := ⟨RK[q]'(by rw [HRL.out]; exact hlq), List.getElem?_eq_getElem _⟩
                rcases HO6o.out.sl with ⟨_, _, _, e2⟩ | ⟨b6, o6, cap6, he, _, _, h4⟩
                · rw [e2] at hv; simp at hv
                have hrl := HRL.out
                obtain ⟨rfl, rfl⟩ : a6 = some ⟨b6, o6, none⟩ ∧ c6 = cap6 := by simpa [hrl] using he
                have hc := cell_by' hb2 (h4 q v hv)
                have hiff := HRX.out q z v hz hv
                have HSX := Lib.hid (HST.out x q z hz)
                have hlen := HLE.out x q
                have j1 : (0 : Int) ≤ (q : Int) := by omega
                have j2 : (q : Int) < (zs.length : Int) := by omega
                clear hz hv h4 he hrl
                by_cases hq1 : v = (r : Int)
                · have e3 : (v == (r : Int)) = true := by simpa using hq1
                  have hzx := hiff.1 hq1
                  subst hq1
                  have e4 : ((r : Int) == (r : Int)) = true := by simp
                  clear hiff
                  go_wp2_with (refine list_pushI (by rfl) _ _ (by rfl) wo.heap.size hj _ _ [(q : Int)] (by rfl) (HI.out.by (by ((repeat (first | (with_reducible exact Below.refl _ _) | (with_reducible refine below_drewN ?_ _) | (with_reducible refine Below.drew ?_) | (with_reducible refine below_al ?_ _) | (with_reducible refine below_on (by assumption) ?_) | ((with_reducible refine Below.setCell ?_ ?_ _); rotate_left; focus (first | omega | (simp; done) | (simp; omega))) | (with_reducible assumption))); done))) wr.heap.size 1 #[.int .i64 (q : Int)] (by rfl) (by rfl) (by omega) (Blk.new _ rfl) (by rfl) (by omega) (by omega) ?_; intro a5 c5 w5 hB5 hw5; have HB5 := Lib.hid hB5; clear hB5)
                  have hsz := hw5.size
                  simp only [World.size_alloc] at hsz
                  refine ⟨⟨q + 1, w5.heap.size, by omega, by go_num, Lib.hid ?_, by omega, hw5.below (below_al hb2 _) (by omega)⟩, by simp [intOf]; omega⟩
                  rw [HSX.out, if_pos hzx]
                  simpa using HB5.out
                · have e3 : (v == (r : Int)) = false := by simpa using hq1
                  have hzx : ¬ z = x := fun e => hq1 (hiff.2 e)
                  clear hq1 hiff
                  have HE := Lib.hid (show clsTo zs x (q + 1) = clsTo zs x q by rw [HSX.out, if_neg hzx, List.append_nil])
                  go_wp2
                  refine ⟨⟨q + 1, hj, by omega, by go_num, Lib.hid ?_, by omega, hb2⟩, by simp [intOf]; omega⟩
                  rw [HE.out]
                  exact HI.out
              · obtain rfl : q = zs.length := by omega
                have j2 : ¬ (zs.length : Int) < (zs.length : Int) := by omega
                obtain ⟨fb, hfb, hOR⟩ := HI.out.own.pick hjh
                have HOR := Lib.hid hOR
                have HBB := Lib.hid (HBo.out.by hb2)
                clear hOR HI
                go_wp2_with (refine list_pushLG (by rfl) _ _ (by rfl) w.heap.size h2 (.slice ad r cd) (CL.take r) (by rfl) (HBB.out.by (by ((repeat (first | (with_reducible exact Below.refl _ _) | (with_reducible refine below_drewN ?_ _) | (with_reducible refine Below.drew ?_) | (with_reducible refine below_al ?_ _) | (with_reducible refine below_on (by assumption) ?_) | ((with_reducible refine Below.setCell ?_ ?_ _); rotate_left; focus (first | omega | (simp; done) | (simp; omega))) | (with_reducible assumption))); done))) wr.heap.size (clsTo zs x zs.length) _ fb (by rfl) (Blk.new _ rfl) (OwnR.by ((Below.refl _ wr).alloc (Nat.le_refl _) _) HOR.out) (by omega) (by omega) (by simp; omega) (by rw [HML.out]; omega) ?_; intro g5 c5 w5 hB5 hk5 ho5 hw5; have HB5 := Lib.hid hB5; have HK5 := Lib.hid hk5; have HO5 := Lib.hid ho5; rw [HML.out]; clear hB5 hk5 ho5)
                have hsz := hw5.size
                simp only [World.size_alloc] at hsz
                have hk5 := HK5.out
                have ho5 := HO5.out
                simp only [World.size_alloc] at hk5 ho5
                refine ⟨⟨r + 1, w5.heap.size, by omega, by go_num, Lib.hid ?_, by omega, by omega, fun g0 e0 => ?_, fun p hp hne => ?_, hw5.below (below_al hbw2 _) (by omega)⟩, by simp [intOf]; omega⟩
                rotate_left
                · have e1 : g5 = g0 := by injection e0
                  subst e1
                  rcases ho5 with h | h
                  · exact hOw _ h
                  · omega
                · refine (hk5 p (by omega) (fun e => by have := hOw p e; omega)).trans ((((Below.refl _ wr).alloc (Nat.le_refl _) _).block p (by omega)).trans ((hb2.block p (by omega)).trans (hOffo p hp hne)))
                rw [HCX.out]
                have := HB5.out
                rw [HML.out] at this
                exact this
          · obtain rfl : r = D := by omega
            have i4 : ¬ (r : Int) < (r : Int) := by omega
            have hBl := HBd.out
            rw [List.take_of_length_le (by rw [HCL.out]; exact Nat.le_refl _)] at hBl
            have HBL := Lib.hid ((hBl.wide (lo' := w.heap.size) (hi' := wr.heap.size) (Nat.le_refl _) hIs (Nat.le_refl _)).by (below_of_drewN wr nd))
            clear hBl HBd
            go_wp2
            go_ret
            exact ⟨_, rfl, HBL.out, below_on (below_of_drewN wr nd) hbw⟩
end Go.Proofs.Ytjldkejegdljiaa
