/- The reference's l29Ranks. -/
import Derived.Test.YtpaiiaajbojmnaaGreatLl
import Derived.Test.YtpaiiaajbojmnaaGreatOrdB
import Derived.Test.YtpaiiaajbojmnaaGreatIntB
import Derived.Deep.DeepCutAuto
import Derived.Deep.RegionHeld3
namespace Go.Proofs.YtpaiiaajbojmnaaGreat
open Go.RowKit
set_option linter.unusedVariables false
set_option linter.unusedSimpArgs false

/-- Whether none of the first j is like list k. -/
def noneTo (ls : List (List Int)) (k j : Nat) : Bool := (List.range j).all fun i => decide (lcmp (ls.getD i []) (ls.getD k []) ≠ 0)
theorem noneTo_step (ls : List (List Int)) (k j : Nat) : noneTo ls k (j + 1) = (noneTo ls k j && decide (lcmp (ls.getD j []) (ls.getD k []) ≠ 0)) := by
  simp [noneTo, List.range_succ, List.all_append]
theorem noneTo_first (ls : List (List Int)) (k : Nat) : noneTo ls k k = firstAt ls k := rfl

set_option maxRecDepth 100000 in
set_option maxHeartbeats 2000000 in
theorem specRanks_any (ls : List (List Int)) (sv : Value) (w : World) (h : LlSl w sv ls) (hn : ls.length ≤ 1000) :
    Calls Tryz.prog 94 #[sv] w fun e w' => ∃ v, e = .returned v ∧ OwnR w' w.heap.size w'.heap.size v (rankS ls) ∧ Below w.heap.size w w' := by
  have HL := Lib.hid h
  have HLL := Lib.hid (fun s1 s2 xs ys w h h' => l27List_any s1 s2 xs ys w h h')
  have HTK := Lib.hid (fun k x (h : ls[k]? = some x) => show (rankS ls).take (k + 1) = (rankS ls).take k ++ [(rankOf ls x : Int)] from take_snoc_of (rankS ls) k _ (by simp [rankS, h]))
  have HLR := Lib.hid (length_rankS ls)
  have HRS := Lib.hid (fun x k => rankTo_step ls x k)
  have HRE := Lib.hid (fun x k => rankTo_le ls x k)
  have HNS := Lib.hid (fun k j => noneTo_step ls k j)
  obtain ⟨a, c, rfl⟩ := h.sized
  clear h
  go_enter Tryz.func94, Tryz.ntmps94
  go_wp2
  go_loopw [3, 4] (fun v i wr => ∃ (k hi : Nat), k ≤ ls.length ∧ i = .int .i64 k ∧ Hid (BldI wr w.heap.size hi v ((rankS ls).take k)) ∧ w.heap.size ≤ hi ∧ Below w.heap.size w wr) (fun _ i _ => ls.length - (intOf i).toNat)
  case atStart =>
    refine ⟨0, w.heap.size + 1, Nat.zero_le _, rfl, Lib.hid ?_, by omega, (by ((repeat (first | (with_reducible exact Below.refl _ _) | (with_reducible refine below_drewN ?_ _) | (with_reducible refine Below.drew ?_) | (with_reducible refine below_al ?_ _) | (with_reducible refine below_on (by assumption) ?_) | ((with_reducible refine Below.setCell ?_ ?_ _); rotate_left; focus (first | omega | (simp; done) | (simp; omega))) | (with_reducible assumption))); done))⟩
    have hB : Blk (w.alloc (.cells #[] 2)) w.heap.size #[] 2 := Blk.new _ rfl
    exact BldI.lit (zs := []) hB rfl (by simp) (Nat.le_refl _) (by omega) (by simp)
  case round =>
    obtain ⟨k, hi, hk, rfl, HB, hhi, hb⟩ := hrel
    have hml : ((rankS ls).take k).length = k := by rw [List.length_take, HLR.out]; omega
    obtain ⟨av, cv, rfl⟩ := HB.out.sized
    rw [hml] at HB ⊢
    have HML := Lib.hid hml
    have hbs := hb.size
    clear hml
    by_cases hlt : k < ls.length
    · obtain ⟨x, hx⟩ : ∃ x, ls[k]? = some x := ⟨ls[k], List.getElem?_eq_getElem hlt⟩
      rcases HL.out with ⟨_, _, _, e2⟩ | ⟨b, off, cap, he, _, _, hcc⟩
      · rw [e2] at hlt; simp at hlt
      obtain ⟨rfl, rfl⟩ : a = some ⟨b, off, none⟩ ∧ c = cap := by simpa using he
      have HCC := Lib.hid hcc
      obtain ⟨sx, cx, hSx⟩ := hcc k x hx
      have HSX := Lib.hid hSx
      have HCX := Lib.hid cx
      have HX := Lib.hid hx
      have HTX := Lib.hid (HTK.out k x hx)
      obtain ⟨ax, dx, rfl⟩ := hSx.len
      have HRx := Lib.hid (HRS.out x)
      have HREx := Lib.hid (HRE.out x)
      obtain ⟨wo, hwo⟩ : ∃ y : World, y = wr := ⟨_, rfl⟩
      subst hwo
      have i1 : (0 : Int) ≤ (k : Int) := by omega
      have i2 : (k : Int) < (ls.length : Int) := by omega
      clear hx he hcc hSx cx
      go_wp2
      -- over the lists: which are less
      go_loopw [5, 6, 7, 8] (fun r j f l wr => ∃ m n : Nat, m ≤ ls.length ∧ j = .int .i64 m ∧ r = .int .i64 (rankTo ls x m : Nat) ∧ wr = wo.drewN n) (fun _ j _ _ _ => ls.length - (intOf j).toNat)
      case atStart => exact ⟨0, 0, Nat.zero_le _, rfl, rfl, rfl⟩
      case round =>
        obtain ⟨m, n, hm, rfl, rfl, rfl⟩ := hrel
        by_cases hlm : m < ls.length
        · obtain ⟨y, hy⟩ : ∃ y, ls[m]? = some y := ⟨ls[m], List.getElem?_eq_getElem hlm⟩
          obtain ⟨sy, cy, hSy⟩ := HCC.out m y hy
          have hyd : ls.getD m [] = y := by rw [List.getD_eq_getElem?_getD, hy]; rfl
          have HYD := Lib.hid hyd
          have HSY := Lib.hid hSy
          have HCY := Lib.hid cy
          obtain ⟨ay, dy, rfl⟩ := hSy.len
          have m1 : (0 : Int) ≤ (m : Int) := by omega
          have m2 : (m : Int) < (ls.length : Int) := by omega
          have hrm := HREx.out m
          clear hy hSy cy hyd
          obtain ⟨wp, hwp⟩ : ∃ wp, wp = wo.drewN n := ⟨_, rfl⟩
          rw [← hwp]
          have hbp : Below wo.heap.size wo wp := by rw [hwp]; exact below_of_drewN wo n
          have HWP := Lib.hid hwp
          clear hwp
          go_wp2
          go_loopw [7, 8] (fun f l wr => ∃ q n : Nat, q ≤ m ∧ l = .int .i64 q ∧ f = .bool (noneTo ls m q) ∧ wr = wp.drewN n) (fun _ l _ => m - (intOf l).toNat)
          case atStart => exact ⟨0, 0, Nat.zero_le _, rfl, rfl, rfl⟩
          case round =>
            obtain ⟨q, n', hq, rfl, rfl, rfl⟩ := hrel
            by_cases hlq : q < m
            · obtain ⟨z, hz⟩ : ∃ z, ls[q]? = some z := ⟨ls[q], List.getElem?_eq_getElem (by omega)⟩
              obtain ⟨sz, cz, hSz⟩ := HCC.out q z hz
              have hzd : ls.getD q [] = z := by rw [List.getD_eq_getElem?_getD, hz]; rfl
              have HST := Lib.hid (HNS.out m q)
              rw [hzd, HYD.out] at HST
              have e1 := cell_by' hbp (cell_by' hb cz)
              have e2 := cell_by' hbp (cell_by' hb HCY.out)
              have HSZ := Lib.hid hSz
              obtain ⟨az, dz, rfl⟩ := hSz.len
              have q1 : (0 : Int) ≤ (q : Int) := by omega
              have q2 : (q : Int) < (ls.length : Int) := by omega
              have q3 : (q : Int) < (m : Int) := by omega
              have hbq : Below w.heap.size w (wp.drewN n').drew := (below_drewN (hb.trans (hbp.mono (by omega))) n').drew
              have HCALL := Lib.hid (HLL.out _ _ z y (wp.drewN n').drew (HSZ.out.by hbq) (HSY.out.by hbq))
              clear hz hSz cz hzd hbq
              cases hf : noneTo ls m q with
              | false =>
                rw [hf] at HST
                have HF := Lib.hid (show noneTo ls m (q + 1) = false by rw [HST.out]; rfl)
                clear hf
                go_wp2_with fail
                go_quiet (fail)
                go_wp2
                exact ⟨⟨q + 1, _, by omega, by go_num, by rw [HF.out], by first | rfl | exact World.drewN_drewN _ _ _⟩, by simp [intOf]; omega⟩
              | true =>
                rw [hf] at HST
                clear hf
                by_cases hz0 : lcmp z y = 0
                · have HF := Lib.hid (show noneTo ls m (q + 1) = false by rw [HST.out]; simp [hz0])
                  have e3 : (lcmp z y != 0) = false := by simpa using hz0
                  clear hz0
                  generalize lcmp z y = L at *
                  go_wp2_with fail
                  go_region_held3 (fun w' => w'.cell? ⟨b, off + q, none⟩ = some (.slice az z.length dz) ∧ w'.cell? ⟨b, off + m, none⟩ = some (.slice ay y.length dy))
                    (exact ⟨e1, e2⟩)
                    (first | (go_at_call 111; refine HCALL.out.mono ?_; rintro e w1 ⟨rfl, n1, rfl⟩))
                  go_wp2
                  exact ⟨⟨q + 1, _, by omega, by go_num, by rw [HF.out], by first | rfl | exact World.drewN_drewN _ _ _⟩, by simp [intOf]; omega⟩
                · have HF := Lib.hid (show noneTo ls m (q + 1) = true by rw [HST.out]; simp [hz0])
                  have e3 : (lcmp z y != 0) = true := by simpa using hz0
                  clear hz0
                  generalize lcmp z y = L at *
                  go_wp2_with fail
                  go_region_held3 (fun w' => w'.cell? ⟨b, off + q, none⟩ = some (.slice az z.length dz) ∧ w'.cell? ⟨b, off + m, none⟩ = some (.slice ay y.length dy))
                    (exact ⟨e1, e2⟩)
                    (first | (go_at_call 111; refine HCALL.out.mono ?_; rintro e w1 ⟨rfl, n1, rfl⟩))
                  go_wp2
                  exact ⟨⟨q + 1, _, by omega, by go_num, by rw [HF.out], by first | rfl | exact World.drewN_drewN _ _ _⟩, by simp [intOf]; omega⟩
            · obtain rfl : q = m := by omega
              have e1 := cell_by' hbp (cell_by' hb HCX.out)
              have e2 := cell_by' hbp (cell_by' hb HCY.out)
              have hst := HRx.out q
              rw [HYD.out, ← noneTo_first] at hst
              have HST := Lib.hid hst
              have hbq : Below w.heap.size w (wp.drewN n').drew := (below_drewN (hb.trans (hbp.mono (by omega))) n').drew
              have HCALL := Lib.hid (HLL.out _ _ y x (wp.drewN n').drew (HSY.out.by hbq) (HSX.out.by hbq))
              have hne : ¬ (q : Int) < (q : Int) := by omega
              clear hst hbq
              cases hf : noneTo ls q q with
              | false =>
                rw [hf] at HST
                have HF := Lib.hid (show rankTo ls x (q + 1) = rankTo ls x q by rw [HST.out]; simp)
                clear hf
                go_wp2_with fail
                go_quiet (fail)
                go_wp2
                exact ⟨⟨q + 1, _, by omega, by go_num, by rw [HF.out], by rw [HWP.out]; first | rfl | exact World.drewN_drewN _ _ _⟩, by simp [intOf]; omega⟩
              | true =>
                rw [hf] at HST
                clear hf
                by_cases hz0 : lcmp y x < 0
                · have HF := Lib.hid (show rankTo ls x (q + 1) = rankTo ls x q + 1 by rw [HST.out]; simp [hz0])
                  generalize lcmp y x = L at *
                  generalize rankTo ls x q = rk at *
                  go_wp2_with fail
                  go_region_held3 (fun w' => w'.cell? ⟨b, off + k, none⟩ = some (.slice ax x.length dx) ∧ w'.cell? ⟨b, off + q, none⟩ = some (.slice ay y.length dy))
                    (exact ⟨e1, e2⟩)
                    (first | (go_at_call 111; refine HCALL.out.mono ?_; rintro e w1 ⟨rfl, n1, rfl⟩))
                  go_wp2
                  exact ⟨⟨q + 1, _, by omega, by go_num, by rw [HF.out]; go_num, by rw [HWP.out]; first | rfl | exact World.drewN_drewN _ _ _⟩, by simp [intOf]; omega⟩
                · have HF := Lib.hid (show rankTo ls x (q + 1) = rankTo ls x q by rw [HST.out]; simp [hz0])
                  generalize lcmp y x = L at *
                  generalize rankTo ls x q = rk at *
                  go_wp2_with fail
                  go_region_held3 (fun w' => w'.cell? ⟨b, off + k, none⟩ = some (.slice ax x.length dx) ∧ w'.cell? ⟨b, off + q, none⟩ = some (.slice ay y.length dy))
                    (exact ⟨e1, e2⟩)
                    (first | (go_at_call 111; refine HCALL.out.mono ?_; rintro e w1 ⟨rfl, n1, rfl⟩))
                  go_wp2
                  exact ⟨⟨q + 1, _, by omega, by go_num, by rw [HF.out], by rw [HWP.out]; first | rfl | exact World.drewN_drewN _ _ _⟩, by simp [intOf]; omega⟩
        · obtain rfl : m = ls.length := by omega
          have HRK := Lib.hid (show rankTo ls x ls.length = rankOf ls x from rfl)
          have hrk := HREx.out ls.length
          rw [HRK.out] at hrk ⊢
          generalize rankOf ls x = rk at *
          have HB4 := Lib.hid (HB.out.by (below_of_drewN wo n))
          go_wp2_with (refine list_pushI (by rfl) _ _ (by rfl) w.heap.size hi _ _ [(rk : Int)] (by rfl) (HB4.out.by (by ((repeat (first | (with_reducible exact Below.refl _ _) | (with_reducible refine below_drewN ?_ _) | (with_reducible refine Below.drew ?_) | (with_reducible refine below_al ?_ _) | (with_reducible refine below_on (by assumption) ?_) | ((with_reducible refine Below.setCell ?_ ?_ _); rotate_left; focus (first | omega | (simp; done) | (simp; omega))) | (with_reducible assumption))); done))) wo.heap.size 1 #[.int .i64 (rk : Int)] (by rfl) (by rfl) (by omega) (Blk.new _ rfl) (by rfl) hhi (by rw [HML.out]; omega) ?_; intro a2 c2' w5 hB5 hw5; have HB5 := Lib.hid hB5; rw [HML.out]; clear hB5)
          have hsz := hw5.size
          simp only [World.size_alloc, size_drewN] at hsz
          refine ⟨⟨k + 1, w5.heap.size, by omega, by go_num, Lib.hid ?_, by omega, hw5.below (below_al (below_drewN hb n) _) (by omega)⟩, by simp [intOf]; omega⟩
          rw [HTX.out]
          have := HB5.out
          rw [HML.out] at this
          exact this
    · obtain rfl : k = ls.length := by omega
      have hBD := HB.out
      rw [List.take_of_length_le (by rw [HLR.out]; exact Nat.le_refl _)] at hBD
      have HBD := Lib.hid hBD
      clear hBD HB
      go_wp2
      go_ret
      exact ⟨_, rfl, OwnR.wide' HBD.out.own (Nat.le_refl _) HBD.out.1, hb⟩
end Go.Proofs.YtpaiiaajbojmnaaGreat
