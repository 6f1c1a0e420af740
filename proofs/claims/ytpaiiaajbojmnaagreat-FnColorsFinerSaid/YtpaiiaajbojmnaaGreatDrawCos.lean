/- The reference's colorings once more: their lists are growing slices. -/
import Derived.Test.YtpaiiaajbojmnaaGreatRefs
import Derived.Test.YtpaiiaajbojmnaaGreatIniX
import Derived.Test.YtpaiiaajbojmnaaGreatInis
import Derived.Test.YtpaiiaajbojmnaaGreatSpecRk
import Derived.Test.YtpaiiaajbojmnaaGreatDrawNls
import Derived.Test.YtpaiiaajbojmnaaGreatDrawMs
import Derived.Test.YtpaiiaajbojmnaaGreatInvMs
namespace Go.Proofs.YtpaiiaajbojmnaaGreat
open Go.RowKit
set_option linter.unusedVariables false
set_option linter.unusedSimpArgs false

theorem BldI.wideB {w : World} {lo hi : Nat} {v : Value} {zs : List Int} (h : BldI w lo hi v zs) : BldI w lo w.heap.size v zs := by
  obtain ⟨h1, h2, h3⟩ := h
  exact ⟨Nat.le_refl _, h2, fun g hg => by have := h3 g hg; omega⟩
theorem BldI.nil9 {w : World} {lo hi : Nat} (h : hi ≤ w.heap.size) : BldI w lo hi (.slice none 0 0) [] := ⟨h, (BldI.nil w lo).2.1, fun g hg => by cases hg⟩
/-- Two growing lists apart from each other. -/
def PrB (w : World) (lo hi : Nat) (v : Value) (x : List Int × List Int) : Prop := ∃ s1 s2 l1 h1 l2 h2, v = .agg #[s1, s2] ∧ BldI w l1 h1 s1 x.1 ∧ BldI w l2 h2 s2 x.2 ∧ (lo ≤ l1 ∧ l1 ≤ h1 ∧ h1 ≤ hi) ∧ (lo ≤ l2 ∧ l2 ≤ h2 ∧ h2 ≤ hi) ∧ (h1 ≤ l2 ∨ h2 ≤ l1)

set_option maxRecDepth 100000 in
set_option maxHeartbeats 2000000 in
theorem specRanksB (ls : List (List Int)) (sv : Value) (w : World) (h : LlSl w sv ls) (hn : ls.length ≤ 1000) :
    Calls Tryz.prog 94 #[sv] w fun e w' => ∃ v, e = .returned v ∧ BldI w' w.heap.size w'.heap.size v (rankS ls) ∧ Below w.heap.size w w' := by
  have HL := Lib.hid h
  have HLL := Lib.hid (fun s1 s2 xs ys w h h' => l27List_any s1 s2 xs ys w h h')
  have HTK := Lib.hid (fun k x (h : ls[k]? = some x) => show (rankS ls).take (k + 1) = (rankS ls).take k ++ [(rankOf ls x : Int)] from take_snoc_of (rankS ls) k _ (by simp [rankS, h]))
  have HLR := Lib.hid (length_rankS ls)
  have HRS := Lib.hid (fun x k => rankTo_step ls x k)
  have HRE := Lib.hid (fun x k => rankTo_le ls x k)
  have HNS := Lib.hid (fun k j => noneTo_step ls k j)
  obtain ⟨a, c, rfl⟩ := h.sized
  clear h
  go_enter Tryz.func94, Tryz.ntmps94
  go_wp2
  go_loopw [3, 4] (fun v i wr => ∃ (k hi : Nat), k ≤ ls.length ∧ i = .int .i64 k ∧ Hid (BldI wr w.heap.size hi v ((rankS ls).take k)) ∧ w.heap.size ≤ hi ∧ Below w.heap.size w wr) (fun _ i _ => ls.length - (intOf i).toNat)
  case atStart =>
    refine ⟨0, w.heap.size + 1, Nat.zero_le _, rfl, Lib.hid ?_, by omega, (by ((repeat (first | (with_reducible exact Below.refl _ _) | (with_reducible refine below_drewN ?_ _) | (with_reducible refine Below.drew ?_) | (with_reducible refine below_al ?_ _) | (with_reducible refine below_on (by assumption) ?_) | ((with_reducible refine Below.setCell ?_ ?_ _); rotate_left; focus (first | omega | (simp; done) | (simp; omega))) | (with_reducible assumption))); done))⟩
    have hB : Blk (w.alloc (.cells #[] 2)) w.heap.size #[] 2 := Blk.new _ rfl
    exact BldI.lit (zs := []) hB rfl (by simp) (Nat.le_refl _) (by omega) (by simp)
  case round =>
    obtain ⟨k, hi, hk, rfl, HB, hhi, hb⟩ := hrel
    have hml : ((rankS ls).take k).length = k := by rw [List.length_take, HLR.out]; omega
    obtain ⟨av, cv, rfl⟩ := HB.out.sized
    rw [hml] at HB ⊢
    have HML := Lib.hid hml
    have hbs := hb.size
    clear hml
    by_cases hlt : k < ls.length
    · obtain ⟨x, hx⟩ : ∃ x, ls[k]? = some x := ⟨ls[k], List.getElem?_eq_getElem hlt⟩
      rcases HL.out with ⟨_, _, _, e2⟩ | ⟨b, off, cap, he, _, _, hcc⟩
      · rw [e2] at hlt; simp at hlt
      obtain ⟨rfl, rfl⟩ : a = some ⟨b, off, none⟩ ∧ c = cap := by simpa using he
      have HCC := Lib.hid hcc
      obtain ⟨sx, cx, hSx⟩ := hcc k x hx
      have HSX := Lib.hid hSx
      have HCX := Lib.hid cx
      have HX := Lib.hid hx
      have HTX := Lib.hid (HTK.out k x hx)
      obtain ⟨ax, dx, rfl⟩ := hSx.len
      have HRx := Lib.hid (HRS.out x)
      have HREx := Lib.hid (HRE.out x)
      obtain ⟨wo, hwo⟩ : ∃ y : World, y = wr := ⟨_, rfl⟩
      subst hwo
      have i1 : (0 : Int) ≤ (k : Int) := by omega
      have i2 : (k : Int) < (ls.length : Int) := by omega
      clear hx he hcc hSx cx
      go_wp2
      -- over the lists: which are less
      go_loopw [5, 6, 7, 8] (fun r j f l wr => ∃ m n : Nat, m ≤ ls.length ∧ j = .int .i64 m ∧ r = .int .i64 (rankTo ls x m : Nat) ∧ wr = wo.drewN n) (fun _ j _ _ _ => ls.length - (intOf j).toNat)
      case atStart => exact ⟨0, 0, Nat.zero_le _, rfl, rfl, rfl⟩
      case round =>
        obtain ⟨m, n, hm, rfl, rfl, rfl⟩ := hrel
        by_cases hlm : m < ls.length
        · obtain ⟨y, hy⟩ : ∃ y, ls[m]? = some y := ⟨ls[m], List.getElem?_eq_getElem hlm⟩
          obtain ⟨sy, cy, hSy⟩ := HCC.out m y hy
          have hyd : ls.getD m [] = y := by rw [List.getD_eq_getElem?_getD, hy]; rfl
          have HYD := Lib.hid hyd
          have HSY := Lib.hid hSy
          have HCY := Lib.hid cy
          obtain ⟨ay, dy, rfl⟩ := hSy.len
          have m1 : (0 : Int) ≤ (m : Int) := by omega
          have m2 : (m : Int) < (ls.length : Int) := by omega
          have hrm := HREx.out m
          clear hy hSy cy hyd
          obtain ⟨wp, hwp⟩ : ∃ wp, wp = wo.drewN n := ⟨_, rfl⟩
          rw [← hwp]
          have hbp : Below wo.heap.size wo wp := by rw [hwp]; exact below_of_drewN wo n
          have HWP := Lib.hid hwp
          clear hwp
          go_wp2
          go_loopw [7, 8] (fun f l wr => ∃ q n : Nat, q ≤ m ∧ l = .int .i64 q ∧ f = .bool (noneTo ls m q) ∧ wr = wp.drewN n) (fun _ l _ => m - (intOf l).toNat)
          case atStart => exact ⟨0, 0, Nat.zero_le _, rfl, rfl, rfl⟩
          case round =>
            obtain ⟨q, n', hq, rfl, rfl, rfl⟩ := hrel
            by_cases hlq : q < m
            · obtain ⟨z, hz⟩ : ∃ z, ls[q]? = some z := ⟨ls[q], List.getElem?_eq_getElem (by omega)⟩
              obtain ⟨sz, cz, hSz⟩ := HCC.out q z hz
              have hzd : ls.getD q [] = z := by rw [List.getD_eq_getElem?_getD, hz]; rfl
              have HST := Lib.hid (HNS.out m q)
              rw [hzd, HYD.out] at HST
              have e1 := cell_by' hbp (cell_by' hb cz)
              have e2 := cell_by' hbp (cell_by' hb HCY.out)
              have HSZ := Lib.hid hSz
              obtain ⟨az, dz, rfl⟩ := hSz.len
              have q1 : (0 : Int) ≤ (q : Int) := by omega
              have q2 : (q : Int) < (ls.length : Int) := by omega
              have q3 : (q : Int) < (m : Int) := by omega
              have hbq : Below w.heap.size w (wp.drewN n').drew := (below_drewN (hb.trans (hbp.mono (by omega))) n').drew
              have HCALL := Lib.hid (HLL.out _ _ z y (wp.drewN n').drew (HSZ.out.by hbq) (HSY.out.by hbq))
              clear hz hSz cz hzd hbq
              cases hf : noneTo ls m q with
              | false =>
                rw [hf] at HST
                have HF := Lib.hid (show noneTo ls m (q + 1) = false by rw [HST.out]; rfl)
                clear hf
                go_wp2_with fail
                go_quiet (fail)
                go_wp2
                exact ⟨⟨q + 1, _, by omega, by go_num, by rw [HF.out], by first | rfl | exact World.drewN_drewN _ _ _⟩, by simp [intOf]; omega⟩
              | true =>
                rw [hf] at HST
                clear hf
                by_cases hz0 : lcmp z y = 0
                · have HF := Lib.hid (show noneTo ls m (q + 1) = false by rw [HST.out]; simp [hz0])
                  have e3 : (lcmp z y != 0) = false := by simpa using hz0
                  clear hz0
                  generalize lcmp z y = L at *
                  go_wp2_with fail
                  go_region_held3 (fun w' => w'.cell? ⟨b, off + q, none⟩ = some (.slice az z.length dz) ∧ w'.cell? ⟨b, off + m, none⟩ = some (.slice ay y.length dy))
                    (exact ⟨e1, e2⟩)
                    (first | (go_at_call 111; refine HCALL.out.mono ?_; rintro e w1 ⟨rfl, n1, rfl⟩))
                  go_wp2
                  exact ⟨⟨q + 1, _, by omega, by go_num, by rw [HF.out], by first | rfl | exact World.drewN_drewN _ _ _⟩, by simp [intOf]; omega⟩
                · have HF := Lib.hid (show noneTo ls m (q + 1) = true by rw [HST.out]; simp [hz0])
                  have e3 : (lcmp z y != 0) = true := by simpa using hz0
                  clear hz0
                  generalize lcmp z y = L at *
                  go_wp2_with fail
                  go_region_held3 (fun w' => w'.cell? ⟨b, off + q, none⟩ = some (.slice az z.length dz) ∧ w'.cell? ⟨b, off + m, none⟩ = some (.slice ay y.length dy))
                    (exact ⟨e1, e2⟩)
                    (first | (go_at_call 111; refine HCALL.out.mono ?_; rintro e w1 ⟨rfl, n1, rfl⟩))
                  go_wp2
                  exact ⟨⟨q + 1, _, by omega, by go_num, by rw [HF.out], by first | rfl | exact World.drewN_drewN _ _ _⟩, by simp [intOf]; omega⟩
            · obtain rfl : q = m := by omega
              have e1 := cell_by' hbp (cell_by' hb HCX.out)
              have e2 := cell_by' hbp (cell_by' hb HCY.out)
              have hst := HRx.out q
              rw [HYD.out, ← noneTo_first] at hst
              have HST := Lib.hid hst
              have hbq : Below w.heap.size w (wp.drewN n').drew := (below_drewN (hb.trans (hbp.mono (by omega))) n').drew
              have HCALL := Lib.hid (HLL.out _ _ y x (wp.drewN n').drew (HSY.out.by hbq) (HSX.out.by hbq))
              have hne : ¬ (q : Int) < (q : Int) := by omega
              clear hst hbq
              cases hf : noneTo ls q q with
              | false =>
                rw [hf] at HST
                have HF := Lib.hid (show rankTo ls x (q + 1) = rankTo ls x q by rw [HST.out]; simp)
                clear hf
                go_wp2_with fail
                go_quiet (fail)
                go_wp2
                exact ⟨⟨q + 1, _, by omega, by go_num, by rw [HF.out], by rw [HWP.out]; first | rfl | exact World.drewN_drewN _ _ _⟩, by simp [intOf]; omega⟩
              | true =>
                rw [hf] at HST
                clear hf
                by_cases hz0 : lcmp y x < 0
                · have HF := Lib.hid (show rankTo ls x (q + 1) = rankTo ls x q + 1 by rw [HST.out]; simp [hz0])
                  generalize lcmp y x = L at *
                  generalize rankTo ls x q = rk at *
                  go_wp2_with fail
                  go_region_held3 (fun w' => w'.cell? ⟨b, off + k, none⟩ = some (.slice ax x.length dx) ∧ w'.cell? ⟨b, off + q, none⟩ = some (.slice ay y.length dy))
                    (exact ⟨e1, e2⟩)
                    (first | (go_at_call 111; refine HCALL.out.mono ?_; rintro e w1 ⟨rfl, n1, rfl⟩))
                  go_wp2
                  exact ⟨⟨q + 1, _, by omega, by go_num, by rw [HF.out]; go_num, by rw [HWP.out]; first | rfl | exact World.drewN_drewN _ _ _⟩, by simp [intOf]; omega⟩
                · have HF := Lib.hid (show rankTo ls x (q + 1) = rankTo ls x q by rw [HST.out]; simp [hz0])
                  generalize lcmp y x = L at *
                  generalize rankTo ls x q = rk at *
                  go_wp2_with fail
                  go_region_held3 (fun w' => w'.cell? ⟨b, off + k, none⟩ = some (.slice ax x.length dx) ∧ w'.cell? ⟨b, off + q, none⟩ = some (.slice ay y.length dy))
                    (exact ⟨e1, e2⟩)
                    (first | (go_at_call 111; refine HCALL.out.mono ?_; rintro e w1 ⟨rfl, n1, rfl⟩))
                  go_wp2
                  exact ⟨⟨q + 1, _, by omega, by go_num, by rw [HF.out], by rw [HWP.out]; first | rfl | exact World.drewN_drewN _ _ _⟩, by simp [intOf]; omega⟩
        · obtain rfl : m = ls.length := by omega
          have HRK := Lib.hid (show rankTo ls x ls.length = rankOf ls x from rfl)
          have hrk := HREx.out ls.length
          rw [HRK.out] at hrk ⊢
          generalize rankOf ls x = rk at *
          have HB4 := Lib.hid (HB.out.by (below_of_drewN wo n))
          go_wp2_with (refine list_pushI (by rfl) _ _ (by rfl) w.heap.size hi _ _ [(rk : Int)] (by rfl) (HB4.out.by (by ((repeat (first | (with_reducible exact Below.refl _ _) | (with_reducible refine below_drewN ?_ _) | (with_reducible refine Below.drew ?_) | (with_reducible refine below_al ?_ _) | (with_reducible refine below_on (by assumption) ?_) | ((with_reducible refine Below.setCell ?_ ?_ _); rotate_left; focus (first | omega | (simp; done) | (simp; omega))) | (with_reducible assumption))); done))) wo.heap.size 1 #[.int .i64 (rk : Int)] (by rfl) (by rfl) (by omega) (Blk.new _ rfl) (by rfl) hhi (by rw [HML.out]; omega) ?_; intro a2 c2' w5 hB5 hw5; have HB5 := Lib.hid hB5; rw [HML.out]; clear hB5)
          have hsz := hw5.size
          simp only [World.size_alloc, size_drewN] at hsz
          refine ⟨⟨k + 1, w5.heap.size, by omega, by go_num, Lib.hid ?_, by omega, hw5.below (below_al (below_drewN hb n) _) (by omega)⟩, by simp [intOf]; omega⟩
          rw [HTX.out]
          have := HB5.out
          rw [HML.out] at this
          exact this
    · obtain rfl : k = ls.length := by omega
      have hBD := HB.out
      rw [List.take_of_length_le (by rw [HLR.out]; exact Nat.le_refl _)] at hBD
      have HBD := Lib.hid hBD
      clear hBD HB
      go_wp2
      go_ret
      exact ⟨_, rfl, HBD.out.wideB, hb⟩

set_option maxRecDepth 100000 in
set_option maxHeartbeats 2000000 in
theorem specIniB (x : Nl) (v : Value) (m : Nat) (w : World) (h : NlV w v x) (hm : x.nets = m) (hm24 : m ≤ 24) (hl : x.ds.length ≤ 24) (hpl : x.ps.length ≤ 8) :
    Calls Tryz.prog 74 #[v] w fun e w' => ∃ v', e = .returned v' ∧ PrB w' w.heap.size w'.heap.size v' (iniS x) ∧ Below w.heap.size w w' := by
  obtain ⟨s1, s2, rfl, hd, hp⟩ := h
  obtain ⟨Y, hY⟩ : ∃ Y, iniS x = Y := ⟨_, rfl⟩
  rw [hY]
  have hY' : (rankS (netL x m), rankS (devL x.ds)) = Y := by rw [← hY]; unfold iniS; rw [hm, Int.toNat_natCast]
  have HY := Lib.hid hY'
  have HNS := Lib.hid (fun n => netL_step x n)
  have HNL := Lib.hid (fun n => length_netL x n)
  have HN0 := Lib.hid (show netL x 0 = [] from rfl)
  obtain ⟨nets, ds, ps⟩ := x
  dsimp only at hd hp hm hl hpl HY HNS
  subst hm
  have HD := Lib.hid hd
  have HP := Lib.hid hp
  have HPS := Lib.hid (fun net k p => portTo_step ps net k p)
  have HPL := Lib.hid (fun net k => portTo_len ps net k)
  have HDL := Lib.hid (length_devL ds)
  have HDT := Lib.hid (fun k d (h : ds[k]? = some d) => show (devL ds).take (k + 1) = (devL ds).take k ++ [[d.kind, d.wd, d.len]] from take_snoc_of (devL ds) k _ (by simp [devL, h]))
  have HR1 := Lib.hid (fun sv w h => specRanksB (netL ⟨(m : Int), ds, ps⟩ m) sv w h (by rw [length_netL]; omega))
  have HR2 := Lib.hid (fun sv w h => specRanksB (devL ds) sv w h (by rw [length_devL]; omega))
  generalize netL ⟨(m : Int), ds, ps⟩ = NL at *
  generalize devL ds = DL at *
  obtain ⟨a1, c1, rfl⟩ := hd.sized
  obtain ⟨a2, c2, rfl⟩ := hp.sized
  clear hd hp hY hY'
  go_enter Tryz.func74, Tryz.ntmps74
  go_wp2
  go_loopw [3, 4, 5, 6] (fun u i _ _ wr => ∃ (k hi : Nat), k ≤ m ∧ i = .int .i64 k ∧ Hid (BldL wr (w.heap.size + 1 + 1) hi u (NL k)) ∧ w.heap.size + 1 + 1 < hi ∧ Blk wr w.heap.size #[.int .i64 (m : Int), .slice a1 ds.length c1, .slice a2 ps.length c2] 27 ∧ Blk wr (w.heap.size + 1) #[.slice none 0 0, .slice none 0 0] 30 ∧ Below w.heap.size w wr) (fun _ i _ _ _ => m - (intOf i).toNat)
  case atStart =>
    refine ⟨0, w.heap.size + 1 + 1 + 1, Nat.zero_le _, rfl, Lib.hid ?_, by omega, (by ((repeat (first | (with_reducible assumption) | (with_reducible refine Blk.drewN ?_ _) | (with_reducible refine Blk.drew ?_) | ((with_reducible refine Blk.new _ ?_); focus (first | omega | (simp; done) | (simp; omega))) | (with_reducible refine Blk.past ?_ _) | ((with_reducible refine Blk.apart ?_ _ _ _ ?_); rotate_left; focus (first | omega | (simp; done) | (simp; omega))) | (with_reducible refine Blk.by (by assumption) ?_))); done)), (by ((repeat (first | (with_reducible assumption) | (with_reducible refine Blk.drewN ?_ _) | (with_reducible refine Blk.drew ?_) | ((with_reducible refine Blk.new _ ?_); focus (first | omega | (simp; done) | (simp; omega))) | (with_reducible refine Blk.past ?_ _) | ((with_reducible refine Blk.apart ?_ _ _ _ ?_); rotate_left; focus (first | omega | (simp; done) | (simp; omega))) | (with_reducible refine Blk.by (by assumption) ?_))); done)), (by ((repeat (first | (with_reducible exact Below.refl _ _) | (with_reducible refine below_drewN ?_ _) | (with_reducible refine Below.drew ?_) | (with_reducible refine below_al ?_ _) | (with_reducible refine below_on (by assumption) ?_) | ((with_reducible refine Below.setCell ?_ ?_ _); rotate_left; focus (first | omega | (simp; done) | (simp; omega))) | (with_reducible assumption))); done))⟩
    rw [HN0.out]
    exact BldL.lit (Blk.new _ (by simp)) (Nat.le_refl _) (by omega) (by simp)
  case round =>
    obtain ⟨k, hi, hk, rfl, HB, hhi, kA, kR, hb⟩ := hrel
    obtain ⟨av, cv, rfl⟩ := HB.out.sized
    rw [HNL.out k] at HB ⊢
    have hhs := HB.out.1
    have qA := kA.cell
    by_cases hlt : k < m
    · obtain ⟨wo, hwo⟩ : ∃ y : World, y = wr := ⟨_, rfl⟩
      subst hwo
      go_wp2
      go_loopw [5, 6] (fun l i wr2 => ∃ (j h2 : Nat), j ≤ ps.length ∧ i = .int .i64 j ∧ Hid (BldI wr2 wo.heap.size h2 l (portTo ps (k : Int) j)) ∧ wo.heap.size < h2 ∧ Below wo.heap.size wo wr2) (fun _ i _ => ps.length - (intOf i).toNat)
      case atStart =>
        refine ⟨0, wo.heap.size + 1, Nat.zero_le _, rfl, Lib.hid ?_, by omega, (by ((repeat (first | (with_reducible exact Below.refl _ _) | (with_reducible refine below_drewN ?_ _) | (with_reducible refine Below.drew ?_) | (with_reducible refine below_al ?_ _) | (with_reducible refine below_on (by assumption) ?_) | ((with_reducible refine Below.setCell ?_ ?_ _); rotate_left; focus (first | omega | (simp; done) | (simp; omega))) | (with_reducible assumption))); done))⟩
        have hB : Blk (wo.alloc (.cells #[] 2)) wo.heap.size #[] 2 := Blk.new _ rfl
        exact BldI.lit (zs := []) hB rfl (by simp) (Nat.le_refl _) (by omega) (by simp)
      case round =>
        obtain ⟨j, h2, hj, rfl, HI, hh2, hb2⟩ := hrel
        obtain ⟨al, cl, rfl⟩ := HI.out.sized
        have hIs := HI.out.1
        have hb2s := hb2.size
        have kA2 := Blk.by hb2 kA
        have qA2 := kA2.cell
        have hbw := below_on hb2 hb
        clear qA
        by_cases hlj : j < ps.length
        · obtain ⟨p, hp⟩ : ∃ p, ps[j]? = some p := ⟨ps[j], List.getElem?_eq_getElem hlj⟩
          rcases HP.out with ⟨_, _, _, e2⟩ | ⟨pb, po, pc, he, _, _, h4⟩
          · rw [e2] at hp; simp at hp
          obtain ⟨rfl, rfl⟩ : a2 = some ⟨pb, po, none⟩ ∧ c2 = pc := by simpa using he
          obtain ⟨p1, p2⟩ := (h4 j p hp).by hbw
          have hst := HPS.out (k : Int) j p hp
          have hlen := HPL.out (k : Int) j
          obtain ⟨pn, hpn⟩ : ∃ z, p.net = z := ⟨_, rfl⟩
          rw [hpn] at p2 hst
          have HST := Lib.hid hst
          have j1 : (0 : Int) ≤ (j : Int) := by omega
          have j2 : (j : Int) < (ps.length : Int) := by omega
          clear hp h4 he hst hpn p1
          by_cases hq : pn = (k : Int)
          · subst hq
            have e3 : ((k : Int) == (k : Int)) = true := by simp
            go_wp2_with (refine list_pushI (by rfl) _ _ (by rfl) wo.heap.size h2 _ _ [(j : Int)] (by rfl) (HI.out.by (by ((repeat (first | (with_reducible exact Below.refl _ _) | (with_reducible refine below_drewN ?_ _) | (with_reducible refine Below.drew ?_) | (with_reducible refine below_al ?_ _) | (with_reducible refine below_on (by assumption) ?_) | ((with_reducible refine Below.setCell ?_ ?_ _); rotate_left; focus (first | omega | (simp; done) | (simp; omega))) | (with_reducible assumption))); done))) wr.heap.size 1 #[.int .i64 (j : Int)] (by rfl) (by rfl) (by omega) (Blk.new _ rfl) (by rfl) (by omega) (by omega) ?_; intro a5 c5 w5 hB5 hw5; have HB5 := Lib.hid hB5; clear hB5)
            have hsz := hw5.size
            simp only [World.size_alloc] at hsz
            refine ⟨⟨j + 1, w5.heap.size, by omega, by go_num, Lib.hid ?_, by omega, hw5.below (below_al hb2 _) (by omega)⟩, by simp [intOf]; omega⟩
            rw [HST.out]
            simpa using HB5.out
          · have e3 : (pn == (k : Int)) = false := by simpa using hq
            have HE := Lib.hid (show portTo ps (k : Int) (j + 1) = portTo ps (k : Int) j by rw [HST.out]; simp [hq])
            clear hq
            go_wp2
            refine ⟨⟨j + 1, h2, by omega, by go_num, Lib.hid ?_, by omega, hb2⟩, by simp [intOf]; omega⟩
            rw [HE.out]
            exact HI.out
        · obtain rfl : j = ps.length := by omega
          have HOL := Lib.hid HI.out.own
          obtain ⟨fb, hfb, hOR⟩ := HI.out.own.pick hh2
          have HOR := Lib.hid hOR
          have HBB := Lib.hid (HB.out.by hb2)
          have hnk := HNL.out k
          have HNK := Lib.hid hnk
          have HSX := Lib.hid (HNS.out k)
          have kR2 := Blk.by hb2 kR
          clear hOR hnk HI
          go_wp2_with (refine list_pushL (by rfl) _ _ (by rfl) (w.heap.size + 1 + 1) hi (.slice av k cv) (NL k) (by rfl) (HBB.out.by (by ((repeat (first | (with_reducible exact Below.refl _ _) | (with_reducible refine below_drewN ?_ _) | (with_reducible refine Below.drew ?_) | (with_reducible refine below_al ?_ _) | (with_reducible refine below_on (by assumption) ?_) | ((with_reducible refine Below.setCell ?_ ?_ _); rotate_left; focus (first | omega | (simp; done) | (simp; omega))) | (with_reducible assumption))); done))) wr.heap.size (portTo ps (k : Int) ps.length) _ fb (by rfl) (Blk.new _ rfl) (OwnR.by ((Below.refl _ wr).alloc (Nat.le_refl _) _) HOR.out) (by omega) (by omega) (by simp; omega) (by rw [HNK.out]; omega) ?_; intro a5 c5 w5 hB5 hw5; have HB5 := Lib.hid hB5; rw [HNK.out]; clear hB5)
          have hsz := hw5.size
          simp only [World.size_alloc] at hsz
          refine ⟨⟨k + 1, w5.heap.size, by omega, by go_num, Lib.hid ?_, by omega, hw5.blk (kA2.past _) (by omega), hw5.blk (kR2.past _) (by omega), hw5.below (below_al hbw _) (by omega)⟩, by simp [intOf]; omega⟩
          rw [HSX.out]
          have := HB5.out
          rw [HNK.out] at this
          exact this
    · obtain rfl : k = m := by omega
      have HLL1 := Lib.hid HB.out.ll.1
      obtain ⟨wo, hwo⟩ : ∃ y : World, y = wr := ⟨_, rfl⟩
      subst hwo
      clear HB
      go_wp2
      go_loopw [7, 8] (fun u i wr2 => ∃ (j h2 : Nat), j ≤ ds.length ∧ i = .int .i64 j ∧ Hid (BldL wr2 wo.heap.size h2 u (DL.take j)) ∧ wo.heap.size < h2 ∧ Below wo.heap.size wo wr2) (fun _ i _ => ds.length - (intOf i).toNat)
      case atStart =>
        refine ⟨0, wo.heap.size + 1, Nat.zero_le _, rfl, Lib.hid ?_, by omega, (by ((repeat (first | (with_reducible exact Below.refl _ _) | (with_reducible refine below_drewN ?_ _) | (with_reducible refine Below.drew ?_) | (with_reducible refine below_al ?_ _) | (with_reducible refine below_on (by assumption) ?_) | ((with_reducible refine Below.setCell ?_ ?_ _); rotate_left; focus (first | omega | (simp; done) | (simp; omega))) | (with_reducible assumption))); done))⟩
        rw [List.take_zero]
        exact BldL.lit (Blk.new _ rfl) (Nat.le_refl _) (by omega) (by simp)
      case round =>
        obtain ⟨j, h2, hj, rfl, HBd, hh2, hb2⟩ := hrel
        obtain ⟨ad, cd, rfl⟩ := HBd.out.sized
        have hml : (DL.take j).length = j := by rw [List.length_take, HDL.out]; omega
        rw [hml] at HBd ⊢
        have HML := Lib.hid hml
        have hIs := HBd.out.1
        have hb2s := hb2.size
        have kA2 := Blk.by hb2 kA
        have kR2 := Blk.by hb2 kR
        have qA2 := kA2.cell
        have lA2 := kA2.lt
        have hbw := below_on hb2 hb
        clear qA hml
        by_cases hlj : j < ds.length
        · obtain ⟨d, hd⟩ : ∃ d, ds[j]? = some d := ⟨ds[j], List.getElem?_eq_getElem hlj⟩
          rcases HD.out with ⟨_, _, _, e2⟩ | ⟨db, do_, dc, he, _, _, h4⟩
          · rw [e2] at hd; simp at hd
          obtain ⟨rfl, rfl⟩ : a1 = some ⟨db, do_, none⟩ ∧ c1 = dc := by simpa using he
          obtain ⟨sp, d1, d2, d3, d4, hS⟩ := (h4 j d hd).by hbw
          obtain ⟨ap, cp, rfl⟩ := hS.len
          have HDX := Lib.hid (HDT.out j d hd)
          have j1 : (0 : Int) ≤ (j : Int) := by omega
          have j2 : (j : Int) < (ds.length : Int) := by omega
          clear hd h4 he hS
          go_wp2_with (refine list_pushL (by rfl) _ _ (by rfl) wo.heap.size h2 (.slice ad j cd) (DL.take j) (by rfl) (HBd.out.by (by ((repeat (first | (with_reducible exact Below.refl _ _) | (with_reducible refine below_drewN ?_ _) | (with_reducible refine Below.drew ?_) | (with_reducible refine below_al ?_ _) | (with_reducible refine below_on (by assumption) ?_) | ((with_reducible refine Below.setCell ?_ ?_ _); rotate_left; focus (first | omega | (simp; done) | (simp; omega))) | (with_reducible assumption))); done))) (wr.heap.size + 1 + 1) [d.kind, d.wd, d.len] _ (wr.heap.size + 1) (by rfl) (Blk.new _ (by simp)) (ownR_three ((Blk.new _ (by simp)).past _)) (by omega) (by omega) (by simp) (by rw [HML.out]; omega) ?_; intro a5 c5 w5 hB5 hw5; have HB5 := Lib.hid hB5; rw [HML.out]; clear hB5)
          have hsz := hw5.size
          simp only [World.size_alloc] at hsz
          refine ⟨⟨j + 1, w5.heap.size, by omega, by go_num, Lib.hid ?_, by omega, hw5.below (below_al (below_al (below_al hb2 _) _) _) (by omega)⟩, by simp [intOf]; omega⟩
          rw [HDX.out]
          have := HB5.out
          rw [HML.out] at this
          exact this
        · obtain rfl : j = ds.length := by omega
          have hLL2 := HBd.out.ll.1
          rw [List.take_of_length_le (by rw [HDL.out]; exact Nat.le_refl _)] at hLL2
          have HLL2 := Lib.hid hLL2
          have hos := kR.lt
          clear hLL2 HBd
          go_wp2_with fail
          refine (HR1.out _ _ (HLL1.out.by hb2)).mono ?_
          rintro e w6 ⟨v6, rfl, hO6, hb6⟩
          have HO6 := Lib.hid hO6
          obtain ⟨a6, c6, rfl⟩ := hO6.sized
          rw [length_rankS] at HO6 ⊢
          have hs6 := hb6.size
          clear hO6
          go_wp2_with fail
          refine (HR2.out _ _ (HLL2.out.by hb6)).mono ?_
          rintro e w7 ⟨v7, rfl, hO7, hb7⟩
          have HO7 := Lib.hid hO7
          obtain ⟨a7, c7, rfl⟩ := hO7.sized
          rw [length_rankS] at HO7 ⊢
          have hs7 := hb7.size
          have kR7 := Blk.by hb7 (Blk.by hb6 kR2)
          have qR := kR7.cell
          have fR := kR7.free
          have lR := kR7.lt
          have hbw7 := below_on hb7 (below_on hb6 hbw)
          clear hO7 qA2
          go_wp2
          refine bodyPost_ret (v := .agg #[.slice a6 (NL k).length c6, .slice a7 DL.length c7]) (by simp [results, Tryz.results74, go_sem, *]) rfl ⟨_, rfl, ?_, (by ((repeat (first | (with_reducible exact Below.refl _ _) | (with_reducible refine below_drewN ?_ _) | (with_reducible refine Below.drew ?_) | (with_reducible refine below_al ?_ _) | (with_reducible refine below_on (by assumption) ?_) | ((with_reducible refine Below.setCell ?_ ?_ _); rotate_left; focus (first | omega | (simp; done) | (simp; omega))) | (with_reducible assumption))); done))⟩
          have hy := HY.out
          rw [← hy]
          refine ⟨_, _, wr.heap.size, w6.heap.size, w6.heap.size, w7.heap.size, rfl, ?_, ?_, ⟨by omega, by omega, by simp; omega⟩, ⟨by omega, by omega, by simp; try omega⟩, .inl (Nat.le_refl _)⟩
          · exact BldI.past (Within.off _) (BldI.past (Within.off _) (BldI.by hb7 HO6.out) (by omega)) (by omega)
          · exact BldI.past (Within.off _) (BldI.past (Within.off _) HO7.out (by omega)) (by omega)

set_option maxRecDepth 100000 in
set_option maxHeartbeats 2000000 in
theorem specStepB (x : Nl) (c : List Int × List Int) (m : Nat) (v u : Value) (w : World) (h : NlV w v x) (hc : CoV w u c) (hm : x.nets = m) (hm24 : m ≤ 24) (hl : x.ds.length ≤ 24) (hcn : c.1.length = m) (hcd : c.2.length = x.ds.length)
    (hp3 : ∀ d ∈ x.ds, d.pins.length ≤ 3) (hshp : ∀ d ∈ x.ds, Shp d ∧ ∀ p ∈ d.pins, 0 ≤ p ∧ p < c.1.length) (hoc : ∀ net, ∀ o ∈ occs x.ds c.2 net x.ds.length, ∃ q r : Nat, q < 24 ∧ r < 3 ∧ o = [(q : Int), (r : Int)]) :
    Calls Tryz.prog 75 #[v, u] w fun e w' => ∃ v', e = .returned v' ∧ PrB w' w.heap.size w'.heap.size v' (refS x c) ∧ Below w.heap.size w w' := by
  have HN := Lib.hid h
  have HU := Lib.hid hc
  obtain ⟨Y, hY⟩ : ∃ Y, refS x c = Y := ⟨_, rfl⟩
  rw [hY]
  obtain ⟨NN, hNN⟩ : ∃ Z, ((List.range m).map fun j : Nat => netL' x c (j : Int)) = Z := ⟨_, rfl⟩
  obtain ⟨DD, hDD⟩ : ∃ Z, dsgLs x c = Z := ⟨_, rfl⟩
  have HY := Lib.hid (show (rankS NN, rankS DD) = Y by rw [← hY, ← hNN, ← hDD]; unfold refS; rw [hcn])
  have hNl : NN.length = m := by rw [← hNN]; simp
  have hDl : DD.length = x.ds.length := by rw [← hDD]; simp [dsgLs]
  have HNL := Lib.hid hNl
  have HDL := Lib.hid hDl
  have HNT := Lib.hid (fun k (hk : k < m) => show NN.take (k + 1) = NN.take k ++ [netL' x c (k : Int)] from take_snoc_of NN k _ (by rw [← hNN]; simp [hk]))
  have HDT := Lib.hid (fun k d (hd : x.ds[k]? = some d) => show DD.take (k + 1) = DD.take k ++ [dsgL d (nmOf c.2 (k : Int)) c.1] from take_snoc_of DD k _ (by
    obtain ⟨h1, h2⟩ := List.getElem?_eq_some_iff.1 hd
    rw [← hDD]
    simp [dsgLs, h1, h2, dAt, List.getD_eq_getElem?_getD, hd]))
  have HNP := Lib.hid (fun k : Nat => show 0 < (netL' x c (k : Int)).length by unfold netL'; rw [List.length_append]; simp; omega)
  have HDP := Lib.hid (fun (d : Dv) (k : Int) => show 0 < (dsgL d k c.1).length from dsgL_pos d k c.1)
  have HNV := Lib.hid (fun k (hk : k < m) v u w h h' => specNet_any x c k v u w h h' (by omega) hcd hl hp3)
  have HDV := Lib.hid (fun k d (hd : x.ds[k]? = some d) v u w h h' => l29Device_any x c k d v u w h h' hd (by have := (List.getElem?_eq_some_iff.1 hd).1; omega) (hshp d (List.mem_of_getElem? hd)).1 (hshp d (List.mem_of_getElem? hd)).2 hl (by omega))
  have HR1 := Lib.hid (fun sv w h  => specRanksB NN sv w h  (by omega))
  have HR2 := Lib.hid (fun sv w h  => specRanksB DD sv w h  (by omega))
  obtain ⟨a, ca, a', ca', rfl⟩ := h.sized
  obtain ⟨b, cb, b', cb', rfl⟩ := hc.sized
  clear h hc hY hNN hDD hcn hcd hp3 hshp hoc hNl hDl

  rw [hm] at HN ⊢
  clear hm
  go_enter Tryz.func75, Tryz.ntmps75
  go_wp2
  go_loopw [5, 6] (fun s i wr => ∃ (k hi : Nat), k ≤ m ∧ i = .int .i64 k ∧ Hid (BldL wr (w.heap.size + 1 + 1 + 1) hi s (NN.take k)) ∧ w.heap.size + 1 + 1 + 1 < hi ∧ Blk wr w.heap.size #[.int .i64 (m : Int), .slice a x.ds.length ca, .slice a' x.ps.length ca'] 27 ∧ Blk wr (w.heap.size + 1) #[.slice b c.1.length cb, .slice b' c.2.length cb'] 30 ∧ Blk wr (w.heap.size + 1 + 1) #[.slice none 0 0, .slice none 0 0] 30 ∧ Below w.heap.size w wr) (fun _ i _ => m - (intOf i).toNat)
  case atStart =>
    refine ⟨0, w.heap.size + 1 + 1 + 1 + 1, Nat.zero_le _, rfl, Lib.hid ?_, by omega, (by ((repeat (first | (with_reducible assumption) | (with_reducible refine Blk.drewN ?_ _) | (with_reducible refine Blk.drew ?_) | ((with_reducible refine Blk.new _ ?_); focus (first | omega | (simp; done) | (simp; omega))) | (with_reducible refine Blk.past ?_ _) | ((with_reducible refine Blk.apart ?_ _ _ _ ?_); rotate_left; focus (first | omega | (simp; done) | (simp; omega))) | (with_reducible refine Blk.by (by assumption) ?_))); done)), (by ((repeat (first | (with_reducible assumption) | (with_reducible refine Blk.drewN ?_ _) | (with_reducible refine Blk.drew ?_) | ((with_reducible refine Blk.new _ ?_); focus (first | omega | (simp; done) | (simp; omega))) | (with_reducible refine Blk.past ?_ _) | ((with_reducible refine Blk.apart ?_ _ _ _ ?_); rotate_left; focus (first | omega | (simp; done) | (simp; omega))) | (with_reducible refine Blk.by (by assumption) ?_))); done)), (by ((repeat (first | (with_reducible assumption) | (with_reducible refine Blk.drewN ?_ _) | (with_reducible refine Blk.drew ?_) | ((with_reducible refine Blk.new _ ?_); focus (first | omega | (simp; done) | (simp; omega))) | (with_reducible refine Blk.past ?_ _) | ((with_reducible refine Blk.apart ?_ _ _ _ ?_); rotate_left; focus (first | omega | (simp; done) | (simp; omega))) | (with_reducible refine Blk.by (by assumption) ?_))); done)), (by ((repeat (first | (with_reducible exact Below.refl _ _) | (with_reducible refine below_drewN ?_ _) | (with_reducible refine Below.drew ?_) | (with_reducible refine below_al ?_ _) | (with_reducible refine below_on (by assumption) ?_) | ((with_reducible refine Below.setCell ?_ ?_ _); rotate_left; focus (first | omega | (simp; done) | (simp; omega))) | (with_reducible assumption))); done))⟩
    rw [List.take_zero]
    exact BldL.lit (Blk.new _ (by simp)) (Nat.le_refl _) (by omega) (by simp)
  case round =>
    obtain ⟨k, hi, hk, rfl, HB, hhi, kA, kC, kR, hb⟩ := hrel
    obtain ⟨av, cv, rfl⟩ := HB.out.sized
    have hml : (NN.take k).length = k := by rw [List.length_take, HNL.out]; omega
    rw [hml] at HB ⊢
    have HML := Lib.hid hml
    have hhs := HB.out.1
    have qA := kA.cell
    have qC := kC.cell
    have lR := kR.lt
    clear hml
    by_cases hlt : k < m
    · have i1 : (0 : Int) ≤ (k : Int) := by omega
      have i2 : (k : Int) < (m : Int) := by omega
      go_wp2_with fail
      refine (HNV.out k hlt _ _ _ (HN.out.by hb) (HU.out.by hb)).mono ?_
      rintro e w3 ⟨v3, rfl, hO3, hb3⟩
      obtain ⟨f3, ⟨f31, f32⟩, hp3⟩ := hO3.pick' (HNP.out k)
      have HP3 := Lib.hid hp3
      obtain ⟨a3, c3, rfl⟩ := hO3.sl.len
      have hs3 := hb3.size
      have HB3 := Lib.hid (HB.out.by hb3)
      have kA3 := Blk.by hb3 kA
      have kC3 := Blk.by hb3 kC
      have kR3 := Blk.by hb3 kR
      have hbw := below_on hb3 hb
      have HNX := Lib.hid (HNT.out k hlt)
      generalize netL' x c (k : Int) = G at *
      clear hO3 hp3 qA qC HB
      go_wp2_with (refine list_pushL (by rfl) _ _ (by rfl) (w.heap.size + 1 + 1 + 1) hi (.slice av k cv) (NN.take k) (by rfl) (HB3.out.by (by ((repeat (first | (with_reducible exact Below.refl _ _) | (with_reducible refine below_drewN ?_ _) | (with_reducible refine Below.drew ?_) | (with_reducible refine below_al ?_ _) | (with_reducible refine below_on (by assumption) ?_) | ((with_reducible refine Below.setCell ?_ ?_ _); rotate_left; focus (first | omega | (simp; done) | (simp; omega))) | (with_reducible assumption))); done))) w3.heap.size G _ f3 (by rfl) (Blk.new _ rfl) (OwnR.new HP3.out _) (by omega) (by omega) (by simp; omega) (by rw [HML.out]; omega) ?_; intro a5 c5 w5 hB5 hw5; have HB5 := Lib.hid hB5; rw [HML.out]; clear hB5)
      have hsz := hw5.size
      simp only [World.size_alloc] at hsz
      refine ⟨⟨k + 1, w5.heap.size, by omega, by go_num, Lib.hid ?_, by omega, hw5.blk (kA3.past _) (by omega), hw5.blk (kC3.past _) (by omega), hw5.blk (kR3.past _) (by omega), hw5.below (below_al hbw _) (by omega)⟩, by simp [intOf]; omega⟩
      rw [HNX.out]
      have := HB5.out
      rw [HML.out] at this
      exact this
    · obtain rfl : k = m := by omega
      have hLL := HB.out.ll.1
      rw [List.take_of_length_le (by rw [HNL.out]; exact Nat.le_refl _)] at hLL
      have HLL1 := Lib.hid hLL
      obtain ⟨wo, hwo⟩ : ∃ y : World, y = wr := ⟨_, rfl⟩
      subst hwo
      clear HB hLL
      go_wp2
      go_loopw [7, 8] (fun s i wr2 => ∃ (j h2 : Nat), j ≤ x.ds.length ∧ i = .int .i64 j ∧ Hid (BldL wr2 wo.heap.size h2 s (DD.take j)) ∧ wo.heap.size < h2 ∧ Below wo.heap.size wo wr2) (fun _ i _ => x.ds.length - (intOf i).toNat)
      case atStart =>
        refine ⟨0, wo.heap.size + 1, Nat.zero_le _, rfl, Lib.hid ?_, by omega, (by ((repeat (first | (with_reducible exact Below.refl _ _) | (with_reducible refine below_drewN ?_ _) | (with_reducible refine Below.drew ?_) | (with_reducible refine below_al ?_ _) | (with_reducible refine below_on (by assumption) ?_) | ((with_reducible refine Below.setCell ?_ ?_ _); rotate_left; focus (first | omega | (simp; done) | (simp; omega))) | (with_reducible assumption))); done))⟩
        rw [List.take_zero]
        exact BldL.lit (Blk.new _ rfl) (Nat.le_refl _) (by omega) (by simp)
      case round =>
        obtain ⟨j, h2, hj, rfl, HBd, hh2, hb2⟩ := hrel
        obtain ⟨ad, cd, rfl⟩ := HBd.out.sized
        have hml : (DD.take j).length = j := by rw [List.length_take, HDL.out]; omega
        rw [hml] at HBd ⊢
        have HML2 := Lib.hid hml
        have hIs := HBd.out.1
        have hb2s := hb2.size
        have kA2 := Blk.by hb2 kA
        have kC2 := Blk.by hb2 kC
        have kR2 := Blk.by hb2 kR
        have qA2 := kA2.cell
        have qC2 := kC2.cell
        have lA2 := kA2.lt
        have hbw := below_on hb2 hb
        clear qA qC hml
        by_cases hlj : j < x.ds.length
        · obtain ⟨d, hd⟩ : ∃ d, x.ds[j]? = some d := ⟨x.ds[j], List.getElem?_eq_getElem hlj⟩
          have HDX := Lib.hid (HDT.out j d hd)
          have HDC := Lib.hid (HDV.out j d hd)
          have hdp := HDP.out d (nmOf c.2 (j : Int))
          have j1 : (0 : Int) ≤ (j : Int) := by omega
          have j2 : (j : Int) < (x.ds.length : Int) := by omega
          clear hd
          generalize dsgL d (nmOf c.2 (j : Int)) c.1 = G at *
          go_wp2_with fail
          refine (HDC.out _ _ _ (HN.out.by hbw) (HU.out.by hbw)).mono ?_
          rintro e w3 ⟨v3, rfl, hO3, hb3⟩
          obtain ⟨f3, ⟨f31, f32⟩, hp3⟩ := hO3.pick' hdp
          have HP3 := Lib.hid hp3
          obtain ⟨a3, c3, rfl⟩ := hO3.sl.len
          have hs3 := hb3.size
          have HB3 := Lib.hid (HBd.out.by hb3)
          have hb23 := below_on hb3 hb2
          clear hO3 hp3 qA2 qC2 HBd
          go_wp2_with (refine list_pushL (by rfl) _ _ (by rfl) wo.heap.size h2 (.slice ad j cd) (DD.take j) (by rfl) (HB3.out.by (by ((repeat (first | (with_reducible exact Below.refl _ _) | (with_reducible refine below_drewN ?_ _) | (with_reducible refine Below.drew ?_) | (with_reducible refine below_al ?_ _) | (with_reducible refine below_on (by assumption) ?_) | ((with_reducible refine Below.setCell ?_ ?_ _); rotate_left; focus (first | omega | (simp; done) | (simp; omega))) | (with_reducible assumption))); done))) w3.heap.size G _ f3 (by rfl) (Blk.new _ rfl) (OwnR.new HP3.out _) (by omega) (by omega) (by simp; omega) (by rw [HML2.out]; omega) ?_; intro a5 c5 w5 hB5 hw5; have HB5 := Lib.hid hB5; rw [HML2.out]; clear hB5)
          have hsz := hw5.size
          simp only [World.size_alloc] at hsz
          refine ⟨⟨j + 1, w5.heap.size, by omega, by go_num, Lib.hid ?_, by omega, hw5.below (below_al hb23 _) (by omega)⟩, by simp [intOf]; omega⟩
          rw [HDX.out]
          have := HB5.out
          rw [HML2.out] at this
          exact this
        · obtain rfl : j = x.ds.length := by omega
          have hLL2 := HBd.out.ll.1
          rw [List.take_of_length_le (by rw [HDL.out]; exact Nat.le_refl _)] at hLL2
          have HLL2 := Lib.hid hLL2
          have hos := kR.lt
          clear hLL2 HBd
          go_wp2_with fail
          have hLL1 := HLL1.out.by hb2
          obtain ⟨_, _, es⟩ := hLL1.sized
          rw [HNL.out] at es
          refine (HR1.out _ _ hLL1).mono ?_
          rintro e w6 ⟨v6, rfl, hO6, hb6⟩
          have HO6 := Lib.hid hO6
          obtain ⟨a6, c6, rfl⟩ := hO6.sized
          rw [length_rankS] at HO6 ⊢
          have hs6 := hb6.size
          clear hO6 es hLL1
          go_wp2_with fail
          refine (HR2.out _ _ (HLL2.out.by hb6)).mono ?_
          rintro e w7 ⟨v7, rfl, hO7, hb7⟩
          have HO7 := Lib.hid hO7
          obtain ⟨a7, c7, rfl⟩ := hO7.sized
          rw [length_rankS] at HO7 ⊢
          have hs7 := hb7.size
          have kR7 := Blk.by hb7 (Blk.by hb6 kR2)
          have qR := kR7.cell
          have fR := kR7.free
          have lR := kR7.lt
          have hbw7 := below_on hb7 (below_on hb6 hbw)
          clear hO7 qA2 qC2
          go_wp2
          refine bodyPost_ret (v := .agg #[.slice a6 NN.length c6, .slice a7 DD.length c7]) (by simp [results, Tryz.results75, go_sem, *]) rfl ⟨_, rfl, ?_, (by ((repeat (first | (with_reducible exact Below.refl _ _) | (with_reducible refine below_drewN ?_ _) | (with_reducible refine Below.drew ?_) | (with_reducible refine below_al ?_ _) | (with_reducible refine below_on (by assumption) ?_) | ((with_reducible refine Below.setCell ?_ ?_ _); rotate_left; focus (first | omega | (simp; done) | (simp; omega))) | (with_reducible assumption))); done))⟩
          have hy := HY.out
          rw [← hy]
          refine ⟨_, _, wr.heap.size, w6.heap.size, w6.heap.size, w7.heap.size, rfl, ?_, ?_, ⟨by omega, by omega, by simp; omega⟩, ⟨by omega, by omega, by simp; try omega⟩, .inl (Nat.le_refl _)⟩
          · exact BldI.past (Within.off _) (BldI.past (Within.off _) (BldI.by hb7 HO6.out) (by omega)) (by omega)
          · exact BldI.past (Within.off _) (BldI.past (Within.off _) HO7.out (by omega)) (by omega)

set_option maxRecDepth 100000 in
set_option maxHeartbeats 1000000 in
theorem specInitB (x : Nl) (v : Value) (w : World) (h : NlV w v x) (hok : ∀ p ∈ x.ps, p.ok) (hnn : Fits x.nets) :
    Calls Tryz.prog 47 #[v] w fun e w' => ∃ v', e = .returned (.tuple #[v', .bool (nlB x)]) ∧ PrB w' w.heap.size w'.heap.size v' (iniR x) ∧ Below w.heap.size w w' := by
  have HV := Lib.hid (fun v w h => specNl_any x v w h hok hnn)
  have HN := Lib.hid h
  obtain ⟨Y, hY⟩ : ∃ Y, iniR x = Y := ⟨_, rfl⟩
  rw [hY]
  unfold iniR at hY
  obtain ⟨a, c, a', c', rfl⟩ := h.sized
  cases hb : nlB x with
  | false =>
    rw [hb] at HV hY
    have HY := Lib.hid (show ([], []) = Y by simpa using hY)
    clear h hok hnn hb hY
    go_enter Tryz.func47, Tryz.ntmps47
    go_wp2_with fail
    refine (HV.out _ _ (HN.out.by (by ((repeat (first | (with_reducible exact Below.refl _ _) | (with_reducible refine below_drewN ?_ _) | (with_reducible refine Below.drew ?_) | (with_reducible refine below_al ?_ _) | (with_reducible refine below_on (by assumption) ?_) | ((with_reducible refine Below.setCell ?_ ?_ _); rotate_left; focus (first | omega | (simp; done) | (simp; omega))) | (with_reducible assumption))); done)))).mono ?_
    rintro e w1 ⟨rfl, hb1⟩
    have kR : Blk w1 (w.heap.size + 1) #[.slice none 0 0, .slice none 0 0] 30 := (by ((repeat (first | (with_reducible assumption) | (with_reducible refine Blk.drewN ?_ _) | (with_reducible refine Blk.drew ?_) | ((with_reducible refine Blk.new _ ?_); focus (first | omega | (simp; done) | (simp; omega))) | (with_reducible refine Blk.past ?_ _) | ((with_reducible refine Blk.apart ?_ _ _ _ ?_); rotate_left; focus (first | omega | (simp; done) | (simp; omega))) | (with_reducible refine Blk.by (by assumption) ?_))); done))
    have hW : Below w.heap.size w w1 := (by ((repeat (first | (with_reducible exact Below.refl _ _) | (with_reducible refine below_drewN ?_ _) | (with_reducible refine Below.drew ?_) | (with_reducible refine below_al ?_ _) | (with_reducible refine below_on (by assumption) ?_) | ((with_reducible refine Below.setCell ?_ ?_ _); rotate_left; focus (first | omega | (simp; done) | (simp; omega))) | (with_reducible assumption))); done))
    have qR := kR.cell
    have fR := kR.free
    have lR := kR.lt
    clear hb1
    go_wp2
    refine bodyPost_ret (v := .tuple #[.agg #[.slice none 0 0, .slice none 0 0], .bool false]) (by simp [results, Tryz.results47, go_sem, *]) rfl ⟨_, rfl, ?_, (by ((repeat (first | (with_reducible exact Below.refl _ _) | (with_reducible refine below_drewN ?_ _) | (with_reducible refine Below.drew ?_) | (with_reducible refine below_al ?_ _) | (with_reducible refine below_on (by assumption) ?_) | ((with_reducible refine Below.setCell ?_ ?_ _); rotate_left; focus (first | omega | (simp; done) | (simp; omega))) | (with_reducible assumption))); done))⟩
    rw [← HY.out]
    exact ⟨_, _, w.heap.size, w.heap.size, w.heap.size, w.heap.size, rfl, BldI.nil9 (by have := hW.size; simp; omega), BldI.nil9 (by have := hW.size; simp; omega), by (refine ⟨Nat.le_refl _, Nat.le_refl _, ?_⟩; simp; try omega), by (refine ⟨Nat.le_refl _, Nat.le_refl _, ?_⟩; simp; try omega), .inl (Nat.le_refl _)⟩
  | true =>
    obtain ⟨⟨hn0, hn1⟩, hd24, hp8, hdv, _⟩ := nlB_facts hb
    have hnet := nl_netsI hb
    obtain ⟨m, hm⟩ : ∃ m : Nat, x.nets = m := ⟨x.nets.toNat, by omega⟩
    have HI := Lib.hid (fun v w h => specIniB x v m w h hm (by omega) hd24 hp8)
    rw [hb] at HV hY
    have HY := Lib.hid (show iniS x = Y by simpa using hY)
    clear h hok hnn hb hY hm hn0 hn1 hd24 hp8 hdv hnet
    go_enter Tryz.func47, Tryz.ntmps47
    go_wp2_with fail
    refine (HV.out _ _ (HN.out.by (by ((repeat (first | (with_reducible exact Below.refl _ _) | (with_reducible refine below_drewN ?_ _) | (with_reducible refine Below.drew ?_) | (with_reducible refine below_al ?_ _) | (with_reducible refine below_on (by assumption) ?_) | ((with_reducible refine Below.setCell ?_ ?_ _); rotate_left; focus (first | omega | (simp; done) | (simp; omega))) | (with_reducible assumption))); done)))).mono ?_
    rintro e w1 ⟨rfl, hb1⟩
    have kA : Blk w1 w.heap.size #[.int .i64 x.nets, .slice a x.ds.length c, .slice a' x.ps.length c'] 27 := (by ((repeat (first | (with_reducible assumption) | (with_reducible refine Blk.drewN ?_ _) | (with_reducible refine Blk.drew ?_) | ((with_reducible refine Blk.new _ ?_); focus (first | omega | (simp; done) | (simp; omega))) | (with_reducible refine Blk.past ?_ _) | ((with_reducible refine Blk.apart ?_ _ _ _ ?_); rotate_left; focus (first | omega | (simp; done) | (simp; omega))) | (with_reducible refine Blk.by (by assumption) ?_))); done))
    have kR : Blk w1 (w.heap.size + 1) #[.slice none 0 0, .slice none 0 0] 30 := (by ((repeat (first | (with_reducible assumption) | (with_reducible refine Blk.drewN ?_ _) | (with_reducible refine Blk.drew ?_) | ((with_reducible refine Blk.new _ ?_); focus (first | omega | (simp; done) | (simp; omega))) | (with_reducible refine Blk.past ?_ _) | ((with_reducible refine Blk.apart ?_ _ _ _ ?_); rotate_left; focus (first | omega | (simp; done) | (simp; omega))) | (with_reducible refine Blk.by (by assumption) ?_))); done))
    have hW : Below w.heap.size w w1 := (by ((repeat (first | (with_reducible exact Below.refl _ _) | (with_reducible refine below_drewN ?_ _) | (with_reducible refine Below.drew ?_) | (with_reducible refine below_al ?_ _) | (with_reducible refine below_on (by assumption) ?_) | ((with_reducible refine Below.setCell ?_ ?_ _); rotate_left; focus (first | omega | (simp; done) | (simp; omega))) | (with_reducible assumption))); done))
    have qA := kA.cell
    clear hb1
    go_wp2_with fail
    refine (HI.out _ _ (HN.out.by hW)).mono ?_
    rintro e w2 ⟨v2, rfl, hO, hb2⟩
    rw [HY.out] at hO
    obtain ⟨s1, s2, l1, h1, l2, h2, rfl, hO1, hO2, q1, q2, q3⟩ := hO
    have lR1 := kR.lt
    replace kR := Blk.by hb2 kR
    replace hW := below_on hb2 hW
    obtain ⟨a1, c1, rfl⟩ := hO1.sized
    obtain ⟨a2, c2, rfl⟩ := hO2.sized
    have HO1 := Lib.hid hO1
    have HO2 := Lib.hid hO2
    have qR := kR.cell
    have fR := kR.free
    have lR := kR.lt
    clear hb2 qA hO1 hO2
    obtain ⟨n1, hn1⟩ : ∃ n, Y.1.length = n := ⟨_, rfl⟩
    obtain ⟨n2, hn2⟩ : ∃ n, Y.2.length = n := ⟨_, rfl⟩
    have HN1 := Lib.hid hn1
    have HN2 := Lib.hid hn2
    rw [hn1] at HO1 ⊢
    rw [hn2] at HO2 ⊢
    clear hn1 hn2
    go_wp2
    refine bodyPost_ret (v := .tuple #[.agg #[.slice a1 n1 c1, .slice a2 n2 c2], .bool true]) (by simp [results, Tryz.results47, go_sem, *]) rfl ⟨_, rfl, ⟨_, _, l1, h1, l2, h2, rfl, ?_, ?_, ⟨by omega, by omega, by simp; omega⟩, ⟨by omega, by omega, by simp; omega⟩, q3⟩, (by ((repeat (first | (with_reducible exact Below.refl _ _) | (with_reducible refine below_drewN ?_ _) | (with_reducible refine Below.drew ?_) | (with_reducible refine below_al ?_ _) | (with_reducible refine below_on (by assumption) ?_) | ((with_reducible refine Below.setCell ?_ ?_ _); rotate_left; focus (first | omega | (simp; done) | (simp; omega))) | (with_reducible assumption))); done))⟩
    · exact BldI.past (Within.off _) (BldI.past (Within.off _) HO1.out (by omega)) (by omega)
    · exact BldI.past (Within.off _) (BldI.past (Within.off _) HO2.out (by omega)) (by omega)

set_option maxRecDepth 100000 in
set_option maxHeartbeats 1000000 in
theorem specRefB (x : Nl) (c : List Int × List Int) (v u : Value) (w : World) (h : NlV w v x) (hc : CoV w u c) (hok : ∀ p ∈ x.ps, p.ok) (hnn : Fits x.nets) :
    Calls Tryz.prog 49 #[v, u] w fun e w' => ∃ v', e = .returned (.tuple #[v', .bool (coB x c)]) ∧ PrB w' w.heap.size w'.heap.size v' (refR x c) ∧ Below w.heap.size w w' := by
  have HV := Lib.hid (fun v u w h h' => specIsColoring_any x c v u w h h' hok hnn)
  have HN := Lib.hid h
  have HU := Lib.hid hc
  obtain ⟨Y, hY⟩ : ∃ Y, refR x c = Y := ⟨_, rfl⟩
  rw [hY]
  unfold refR at hY
  obtain ⟨a, ca, a', ca', rfl⟩ := h.sized
  obtain ⟨b, cb, b', cb', rfl⟩ := hc.sized
  cases hb : coB x c with
  | false =>
    rw [hb] at HV hY
    have HY := Lib.hid (show ([], []) = Y by simpa using hY)
    clear h hc hok hnn hb hY
    go_enter Tryz.func49, Tryz.ntmps49
    go_wp2_with fail
    refine (HV.out _ _ _ (HN.out.by (by ((repeat (first | (with_reducible exact Below.refl _ _) | (with_reducible refine below_drewN ?_ _) | (with_reducible refine Below.drew ?_) | (with_reducible refine below_al ?_ _) | (with_reducible refine below_on (by assumption) ?_) | ((with_reducible refine Below.setCell ?_ ?_ _); rotate_left; focus (first | omega | (simp; done) | (simp; omega))) | (with_reducible assumption))); done))) (HU.out.by (by ((repeat (first | (with_reducible exact Below.refl _ _) | (with_reducible refine below_drewN ?_ _) | (with_reducible refine Below.drew ?_) | (with_reducible refine below_al ?_ _) | (with_reducible refine below_on (by assumption) ?_) | ((with_reducible refine Below.setCell ?_ ?_ _); rotate_left; focus (first | omega | (simp; done) | (simp; omega))) | (with_reducible assumption))); done)))).mono ?_
    rintro e w1 ⟨rfl, hb1⟩
    have kR : Blk w1 (w.heap.size + 1 + 1) #[.slice none 0 0, .slice none 0 0] 30 := (by ((repeat (first | (with_reducible assumption) | (with_reducible refine Blk.drewN ?_ _) | (with_reducible refine Blk.drew ?_) | ((with_reducible refine Blk.new _ ?_); focus (first | omega | (simp; done) | (simp; omega))) | (with_reducible refine Blk.past ?_ _) | ((with_reducible refine Blk.apart ?_ _ _ _ ?_); rotate_left; focus (first | omega | (simp; done) | (simp; omega))) | (with_reducible refine Blk.by (by assumption) ?_))); done))
    have hW : Below w.heap.size w w1 := (by ((repeat (first | (with_reducible exact Below.refl _ _) | (with_reducible refine below_drewN ?_ _) | (with_reducible refine Below.drew ?_) | (with_reducible refine below_al ?_ _) | (with_reducible refine below_on (by assumption) ?_) | ((with_reducible refine Below.setCell ?_ ?_ _); rotate_left; focus (first | omega | (simp; done) | (simp; omega))) | (with_reducible assumption))); done))
    have qR := kR.cell
    have fR := kR.free
    have lR := kR.lt
    clear hb1
    go_wp2
    refine bodyPost_ret (v := .tuple #[.agg #[.slice none 0 0, .slice none 0 0], .bool false]) (by simp [results, Tryz.results49, go_sem, *]) rfl ⟨_, rfl, ?_, (by ((repeat (first | (with_reducible exact Below.refl _ _) | (with_reducible refine below_drewN ?_ _) | (with_reducible refine Below.drew ?_) | (with_reducible refine below_al ?_ _) | (with_reducible refine below_on (by assumption) ?_) | ((with_reducible refine Below.setCell ?_ ?_ _); rotate_left; focus (first | omega | (simp; done) | (simp; omega))) | (with_reducible assumption))); done))⟩
    rw [← HY.out]
    exact ⟨_, _, w.heap.size, w.heap.size, w.heap.size, w.heap.size, rfl, BldI.nil9 (by have := hW.size; simp; omega), BldI.nil9 (by have := hW.size; simp; omega), by (refine ⟨Nat.le_refl _, Nat.le_refl _, ?_⟩; simp; try omega), by (refine ⟨Nat.le_refl _, Nat.le_refl _, ?_⟩; simp; try omega), .inl (Nat.le_refl _)⟩
  | true =>
    obtain ⟨f1, f2, f3, f4⟩ := coB_facts hb
    obtain ⟨g1, g2, g3, g4⟩ := coB_nets hb
    have HI := Lib.hid (fun v u w h h' => specStepB x c c.1.length v u w h h' (by omega) f2 f1 rfl f3 g3 f4 (occs_ok hb))
    rw [hb] at HV hY
    have HY := Lib.hid (show refS x c = Y by simpa using hY)
    clear h hc hok hnn hb hY f1 f2 f3 f4 g1 g2 g3 g4
    go_enter Tryz.func49, Tryz.ntmps49
    go_wp2_with fail
    refine (HV.out _ _ _ (HN.out.by (by ((repeat (first | (with_reducible exact Below.refl _ _) | (with_reducible refine below_drewN ?_ _) | (with_reducible refine Below.drew ?_) | (with_reducible refine below_al ?_ _) | (with_reducible refine below_on (by assumption) ?_) | ((with_reducible refine Below.setCell ?_ ?_ _); rotate_left; focus (first | omega | (simp; done) | (simp; omega))) | (with_reducible assumption))); done))) (HU.out.by (by ((repeat (first | (with_reducible exact Below.refl _ _) | (with_reducible refine below_drewN ?_ _) | (with_reducible refine Below.drew ?_) | (with_reducible refine below_al ?_ _) | (with_reducible refine below_on (by assumption) ?_) | ((with_reducible refine Below.setCell ?_ ?_ _); rotate_left; focus (first | omega | (simp; done) | (simp; omega))) | (with_reducible assumption))); done)))).mono ?_
    rintro e w1 ⟨rfl, hb1⟩
    have kA : Blk w1 w.heap.size #[.int .i64 x.nets, .slice a x.ds.length ca, .slice a' x.ps.length ca'] 27 := (by ((repeat (first | (with_reducible assumption) | (with_reducible refine Blk.drewN ?_ _) | (with_reducible refine Blk.drew ?_) | ((with_reducible refine Blk.new _ ?_); focus (first | omega | (simp; done) | (simp; omega))) | (with_reducible refine Blk.past ?_ _) | ((with_reducible refine Blk.apart ?_ _ _ _ ?_); rotate_left; focus (first | omega | (simp; done) | (simp; omega))) | (with_reducible refine Blk.by (by assumption) ?_))); done))
    have kC : Blk w1 (w.heap.size + 1) #[.slice b c.1.length cb, .slice b' c.2.length cb'] 30 := (by ((repeat (first | (with_reducible assumption) | (with_reducible refine Blk.drewN ?_ _) | (with_reducible refine Blk.drew ?_) | ((with_reducible refine Blk.new _ ?_); focus (first | omega | (simp; done) | (simp; omega))) | (with_reducible refine Blk.past ?_ _) | ((with_reducible refine Blk.apart ?_ _ _ _ ?_); rotate_left; focus (first | omega | (simp; done) | (simp; omega))) | (with_reducible refine Blk.by (by assumption) ?_))); done))
    have kR : Blk w1 (w.heap.size + 1 + 1) #[.slice none 0 0, .slice none 0 0] 30 := (by ((repeat (first | (with_reducible assumption) | (with_reducible refine Blk.drewN ?_ _) | (with_reducible refine Blk.drew ?_) | ((with_reducible refine Blk.new _ ?_); focus (first | omega | (simp; done) | (simp; omega))) | (with_reducible refine Blk.past ?_ _) | ((with_reducible refine Blk.apart ?_ _ _ _ ?_); rotate_left; focus (first | omega | (simp; done) | (simp; omega))) | (with_reducible refine Blk.by (by assumption) ?_))); done))
    have hW : Below w.heap.size w w1 := (by ((repeat (first | (with_reducible exact Below.refl _ _) | (with_reducible refine below_drewN ?_ _) | (with_reducible refine Below.drew ?_) | (with_reducible refine below_al ?_ _) | (with_reducible refine below_on (by assumption) ?_) | ((with_reducible refine Below.setCell ?_ ?_ _); rotate_left; focus (first | omega | (simp; done) | (simp; omega))) | (with_reducible assumption))); done))
    have qA := kA.cell
    have qC := kC.cell
    clear hb1
    go_wp2_with fail
    refine (HI.out _ _ _ (HN.out.by hW) (HU.out.by hW)).mono ?_
    rintro e w2 ⟨v2, rfl, hO, hb2⟩
    rw [HY.out] at hO
    obtain ⟨s1, s2, l1, h1, l2, h2, rfl, hO1, hO2, q1, q2, q3⟩ := hO
    have lR1 := kR.lt
    replace kR := Blk.by hb2 kR
    replace hW := below_on hb2 hW
    obtain ⟨a1, c1, rfl⟩ := hO1.sized
    obtain ⟨a2, c2, rfl⟩ := hO2.sized
    have HO1 := Lib.hid hO1
    have HO2 := Lib.hid hO2
    have qR := kR.cell
    have fR := kR.free
    have lR := kR.lt
    clear hb2 qA qC hO1 hO2
    obtain ⟨n1, hn1⟩ : ∃ n, Y.1.length = n := ⟨_, rfl⟩
    obtain ⟨n2, hn2⟩ : ∃ n, Y.2.length = n := ⟨_, rfl⟩
    have HN1 := Lib.hid hn1
    have HN2 := Lib.hid hn2
    rw [hn1] at HO1 ⊢
    rw [hn2] at HO2 ⊢
    clear hn1 hn2
    go_wp2
    refine bodyPost_ret (v := .tuple #[.agg #[.slice a1 n1 c1, .slice a2 n2 c2], .bool true]) (by simp [results, Tryz.results49, go_sem, *]) rfl ⟨_, rfl, ⟨_, _, l1, h1, l2, h2, rfl, ?_, ?_, ⟨by omega, by omega, by simp; omega⟩, ⟨by omega, by omega, by simp; omega⟩, q3⟩, (by ((repeat (first | (with_reducible exact Below.refl _ _) | (with_reducible refine below_drewN ?_ _) | (with_reducible refine Below.drew ?_) | (with_reducible refine below_al ?_ _) | (with_reducible refine below_on (by assumption) ?_) | ((with_reducible refine Below.setCell ?_ ?_ _); rotate_left; focus (first | omega | (simp; done) | (simp; omega))) | (with_reducible assumption))); done))⟩
    · exact BldI.past (Within.off _) (BldI.past (Within.off _) HO1.out (by omega)) (by omega)
    · exact BldI.past (Within.off _) (BldI.past (Within.off _) HO2.out (by omega)) (by omega)
end Go.Proofs.YtpaiiaajbojmnaaGreat

/- The draw of a coloring for a netlist. -/
namespace Go.Proofs.YtpaiiaajbojmnaaGreat
open Go.RowKit
set_option linter.unusedVariables false
set_option linter.unusedSimpArgs false

theorem BldI.offC {w : World} {lo hi T o : Nat} {cs : Array Value} {sv v : Value} {zs : List Int} (h : BldI w lo hi sv zs) (hT : Blk w T cs 30) : BldI (w.setCell ⟨T, o, none⟩ v) lo hi sv zs := by
  obtain ⟨h1, ⟨r1, r2⟩, h3⟩ := h
  refine ⟨by simpa using h1, ⟨r1, ?_⟩, h3⟩
  rcases r2 with r2 | ⟨g, cap, cur, e1, e2, e3, e4⟩
  · exact .inl r2
  · have hne : g ≠ T := fun e => by
      subst e
      have : Blk w g cur 2 := e3
      exact absurd (this.differ2 hT) (by decide)
    exact .inr ⟨g, cap, cur, e1, e2, (Below.heap_setCell w ⟨T, o, none⟩ v g hne).trans e3, e4⟩
/-- What stands while the coloring is drawn. -/
structure LC (W0 : World) (g : Nat) (sv : Value) (n : Nat) (w : World) (C : Nat) (nv s1 s2 u1 u2 : Value) (z : List Int × List Int) (wx : World) : Prop where
  src : Src1 W0 g sv n wx
  b : Blk wx w.heap.size #[nv, s1, s2] 27
  r : Blk wx (w.heap.size + 1) #[.slice none 0 0, .slice none 0 0] 30
  c : Blk wx C #[u1, u2] 30
  p : ∃ l1 h1 l2 h2, BldI wx l1 h1 u1 z.1 ∧ BldI wx l2 h2 u2 z.2 ∧ w.heap.size + 2 ≤ l1 ∧ w.heap.size + 2 ≤ l2 ∧ l1 ≤ h1 ∧ l2 ≤ h2 ∧ (h1 ≤ l2 ∨ h2 ≤ l1) ∧ (h1 ≤ C ∨ C < l1) ∧ (h2 ≤ C ∨ C < l2)
  wi : Within g (g + 1) w wx
theorem LC.only {W0 w wx wy : World} {g n C : Nat} {sv nv s1 s2 u1 u2 : Value} {z : List Int × List Int} (h : LC W0 g sv n w C nv s1 s2 u1 u2 z wx) (ho : Only g wx wy) (hD : Src1 W0 g sv n wy) (hg : g < w.heap.size) (hC : w.heap.size + 2 ≤ C) : LC W0 g sv n w C nv s1 s2 u1 u2 z wy := by
  obtain ⟨l1, h1, l2, h2, p1, p2, q⟩ := h.p
  exact ⟨hD, ho.blk h.b (by omega), ho.blk h.r (by omega), ho.blk h.c (by omega), ⟨l1, h1, l2, h2, BldI.past ho.within9 p1 (.inl (by omega)), BldI.past ho.within9 p2 (.inl (by omega)), q⟩, h.wi.on ho.within9⟩
theorem LC.drew {W0 w wx : World} {g n C : Nat} {sv nv s1 s2 u1 u2 : Value} {z : List Int × List Int} (h : LC W0 g sv n w C nv s1 s2 u1 u2 z wx) : LC W0 g sv n w C nv s1 s2 u1 u2 z (wx.drewN 1) := by
  obtain ⟨l1, h1, l2, h2, p1, p2, q⟩ := h.p
  exact ⟨h.src.by (below_of_drewN _ 1), h.b.drewN 1, h.r.drewN 1, h.c.drewN 1, ⟨l1, h1, l2, h2, p1.by (below_of_drewN _ 1), p2.by (below_of_drewN _ 1), q⟩, h.wi.drewN 1⟩
theorem LC.co {W0 w wx : World} {g n C : Nat} {sv nv s1 s2 u1 u2 : Value} {z : List Int × List Int} (h : LC W0 g sv n w C nv s1 s2 u1 u2 z wx) : CoV wx (.agg #[u1, u2]) z := by
  obtain ⟨l1, h1, l2, h2, p1, p2, q⟩ := h.p
  exact ⟨u1, u2, rfl, p1.own.sl, p2.own.sl⟩
theorem LC.by {W0 w wx wy : World} {g n C : Nat} {sv nv s1 s2 u1 u2 : Value} {z : List Int × List Int} (h : LC W0 g sv n w C nv s1 s2 u1 u2 z wx) (hb : Below wx.heap.size wx wy) : LC W0 g sv n w C nv s1 s2 u1 u2 z wy := by
  obtain ⟨l1, h1, l2, h2, p1, p2, q⟩ := h.p
  exact ⟨h.src.by hb, Blk.by hb h.b, Blk.by hb h.r, Blk.by hb h.c, ⟨l1, h1, l2, h2, p1.by hb, p2.by hb, q⟩, h.wi.ofB hb⟩
theorem three_v (dn : Nat) (h : dn < 3) : ∃ V : Int, (#[.int .i64 (-1), .int .i64 23, .int .i64 24] : Array Value)[dn]? = some (.int .i64 V) := by
  rcases (show dn = 0 ∨ dn = 1 ∨ dn = 2 by omega) with rfl | rfl | rfl
  · exact ⟨-1, rfl⟩
  · exact ⟨23, rfl⟩
  · exact ⟨24, rfl⟩
theorem lcfin {W0 w wx : World} {g n l1 h1 l2 h2 : Nat} {sv u1 u2 : Value} {cs : Array Value} {z : List Int × List Int} (hs : Src1 W0 g sv n wx) (hr : Blk wx (w.heap.size + 1) cs 30) (hw : Within g (g + 1) w wx)
    (p1 : BldI wx l1 h1 u1 z.1) (p2 : BldI wx l2 h2 u2 z.2) (q1 : w.heap.size ≤ l1) (q2 : w.heap.size ≤ l2) (hg : g < w.heap.size) (h0 : W0.heap.size ≤ g) (v1 v2 : Value) :
    MaO w.heap.size ((wx.setCell ⟨w.heap.size + 1, 0, none⟩ v1).setCell ⟨w.heap.size + 1, 1, none⟩ v2) (.agg #[u1, u2]) z ∧ Src1 W0 g sv n ((wx.setCell ⟨w.heap.size + 1, 0, none⟩ v1).setCell ⟨w.heap.size + 1, 1, none⟩ v2) ∧ Within g (g + 1) w ((wx.setCell ⟨w.heap.size + 1, 0, none⟩ v1).setCell ⟨w.heap.size + 1, 1, none⟩ v2) :=
  ⟨⟨u1, u2, rfl, ⟨_, _, q1, ((p1.offC hr).offC (hr.set _ _)).own⟩, _, _, q2, ((p2.offC hr).offC (hr.set _ _)).own⟩, (hs.apart (by omega) (by omega)).apart (by omega) (by omega), (hw.new _ _ _ (by omega)).new _ _ _ (by omega)⟩
theorem LC.fin {W0 w wx : World} {g n C : Nat} {sv nv s1 s2 u1 u2 : Value} {z : List Int × List Int} (h : LC W0 g sv n w C nv s1 s2 u1 u2 z wx) (hg : g < w.heap.size) (h0 : W0.heap.size ≤ g) (v1 v2 : Value) :
    MaO w.heap.size ((wx.setCell ⟨w.heap.size + 1, 0, none⟩ v1).setCell ⟨w.heap.size + 1, 1, none⟩ v2) (.agg #[u1, u2]) z ∧ Src1 W0 g sv n ((wx.setCell ⟨w.heap.size + 1, 0, none⟩ v1).setCell ⟨w.heap.size + 1, 1, none⟩ v2) ∧ Within g (g + 1) w ((wx.setCell ⟨w.heap.size + 1, 0, none⟩ v1).setCell ⟨w.heap.size + 1, 1, none⟩ v2) := by
  obtain ⟨l1, h1, l2, h2, p1, p2, q1, q2, q⟩ := h.p
  exact lcfin h.src h.r h.wi p1 p2 (by omega) (by omega) hg h0 v1 v2
theorem Src1.withinC {W0 w w1 : World} {g n lo hi : Nat} {sv : Value} (hb : Within lo hi w w1) (h : Src1 W0 g sv n w) (hg : g < lo) (hlo : W0.heap.size ≤ lo) : Src1 W0 g sv n w1 := by
  obtain ⟨h1, h2, h3, h4, i, x, h5, h6, h7, h8⟩ := h
  exact ⟨h1, hb.below h2 hlo, h3, h4, i, x, h5, h6, h7, hb.blk h8 (.inl hg)⟩
theorem list_pushIn {ops : Array Oper} {rest : List Oper} {o : Oper} {a : Act} {w : World} {Q : Exit → Act → World → Prop} (hgd : o.guard = none) (s x : Operand)
    (ho : o.op = .call { callee := .builtin .append, args := #[s, x], argTypes := #[28, 28] })
    (lo hi : Nat) (v : Value) (zs ys : List Int) (N : Nat) (hN : zs.length = N) (hs : a.eval s = v) (hB : BldI w lo hi v zs) (nb m : Nat) (cs : Array Value) (hx : a.eval x = .slice (some ⟨nb, 0, none⟩) m m) (hys : ys.length = m) (hm : 0 < m)
    (hnb : Blk w nb cs 2) (hcs : cs.toList = icells ys) (hlo : lo ≤ hi) (hn : N + m ≤ 8000000)
    (hK : ∀ a' c' w', BldI w' lo w'.heap.size (.slice a' (N + m) c') (zs ++ ys) → Within lo hi w w' → wpList Tryz.prog ops Q rest (a.put o.dst (.slice a' (N + m) c')) w') : wpList Tryz.prog ops Q (o :: rest) a w := by
  subst hN
  exact list_pushI hgd s x ho lo hi v zs ys hs hB nb m cs hx hys hm hnb hcs hlo hn hK

set_option maxRecDepth 100000 in
set_option maxHeartbeats 16000000 in
theorem l29DrawColoring_any (W0 : World) (g : Nat) (sv : Value) (n : Nat) (w : World) (hD : Src1 W0 g sv n w) (x : Nl) (v : Value) (hV : NlO (g + 1) w v x) (hS : Small x) :
    Calls Tryz.prog 25 #[.pointer (some ⟨g, 0, none⟩), v] w fun e w' => ∃ u z, e = .returned u ∧ MaO w.heap.size w' u z ∧ (z.1.length ≤ 60 ∧ z.2.length ≤ 120) ∧ Src1 W0 g sv n w' ∧ Within g (g + 1) w w' := by
  have HN := Lib.hid (fun q w h hq => l01Next_any W0 g sv n q w h hq)
  have hgl := hD.lt
  have hg0 : W0.heap.size ≤ g := hD.1
  have hok : ∀ p ∈ x.ps, p.ok := hS.2.2.2.2
  have hfit : Fits x.nets := hS.fits
  obtain ⟨a1, c1, a2, c2, rfl⟩ := hV.nl.sized
  have HII := Lib.hid (fun v w h => specInitB x v w h hok hfit)
  have HRS := Lib.hid (fun z v u w h hc => specRefB x z v u w h hc hok hfit)
  obtain ⟨N, hN⟩ : ∃ N, x.nets = N := ⟨_, rfl⟩
  obtain ⟨L, hL⟩ : ∃ L, x.ds.length = L := ⟨_, rfl⟩
  obtain ⟨L2, hL2⟩ : ∃ L, x.ps.length = L := ⟨_, rfl⟩
  have hNb : -1 ≤ N ∧ N ≤ 25 ∧ L ≤ 100 := by unfold Small at hS; omega
  rw [hN, hL, hL2] at hV ⊢
  have HE := Lib.hid (And.intro hN (And.intro hL hL2))
  have HV := Lib.hid hV
  have kB : Blk ((w.alloc (.cells #[.int .i64 N, .slice a1 L c1, .slice a2 L2 c2] 27)).alloc (.cells #[.slice none 0 0, .slice none 0 0] 30)) w.heap.size #[.int .i64 N, .slice a1 L c1, .slice a2 L2 c2] 27 := (Blk.new _ rfl).past _
  have kR : Blk ((w.alloc (.cells #[.int .i64 N, .slice a1 L c1, .slice a2 L2 c2] 27)).alloc (.cells #[.slice none 0 0, .slice none 0 0] 30)) (w.heap.size + 1) #[.slice none 0 0, .slice none 0 0] 30 := Blk.new _ (by simp)
  have hW0 : Within g (g + 1) w ((w.alloc (.cells #[.int .i64 N, .slice a1 L c1, .slice a2 L2 c2] 27)).alloc (.cells #[.slice none 0 0, .slice none 0 0] 30)) := ((Within.refl _ _ _).alloc _).alloc _
  have HD0 := Lib.hid ((hD.by ((Below.refl _ _).alloc (Nat.le_refl _) (.cells #[.int .i64 N, .slice a1 L c1, .slice a2 L2 c2] 27))).by ((Below.refl _ _).alloc (Nat.le_refl _) (.cells #[.slice none 0 0, .slice none 0 0] 30)))
  have hs0 : w.heap.size + 2 ≤ (((w.alloc (.cells #[.int .i64 N, .slice a1 L c1, .slice a2 L2 c2] 27)).alloc (.cells #[.slice none 0 0, .slice none 0 0] 30))).heap.size := by simp
  clear hN hL hL2 hD hV hS hok hfit
  have qB := kB.cell
  have lB := kB.lt
  go_enter Tryz.func25, Tryz.ntmps25
  go_wp2_with fail
  generalize ((w.alloc (.cells #[.int .i64 N, .slice a1 L c1, .slice a2 L2 c2] 27)).alloc (.cells #[.slice none 0 0, .slice none 0 0] 30)) = wA at *
  refine (HII.out _ _ (HV.out.past hW0 (Nat.le_refl _)).nl).mono ?_
  rintro e w1 ⟨v1, rfl, hP1, hb1⟩
  obtain ⟨u1, u2, l1, h1, l2, h2, rfl, p1, p2, q1, q2, q3⟩ := hP1
  obtain ⟨b1, d1, rfl⟩ := p1.sized
  obtain ⟨b2, d2, rfl⟩ := p2.sized
  have hs1 := hb1.size
  have kB1 := Blk.by hb1 kB
  have kR1 := Blk.by hb1 kR
  have HD1 := Lib.hid (HD0.out.by hb1)
  have HW1 := Lib.hid (hW0.ofB hb1)
  clear hb1 kB kR HD0 hW0 qB lB
  cases hx : nlB x with
  | false =>
    have qB := kB1.cell
    have qR := kR1.cell
    have fR := kR1.free
    have lB := kB1.lt
    have lR := kR1.lt
    have hz : iniR x = ([], []) := by unfold iniR; rw [hx]; rfl
    rw [hz] at p1 p2 ⊢
    have HID := Lib.hid (fun m hm w => l27Identity_any m hm w)
    have HV1 := HV
    clear HII HRS HN p1 p2 q1 q2 q3 HE HV1 qB qR fR lB lR
    have hal : Below w1.heap.size w1 (w1.alloc (.cells #[.slice b1 0 d1, .slice b2 0 d2] 30)) := (Below.refl _ w1).alloc (Nat.le_refl _) _
    have kB2 := Blk.by hal kB1
    have kR2 := Blk.by hal kR1
    have HD2 := Lib.hid (HD1.out.by hal)
    have HW2 := Lib.hid (HW1.out.alloc (.cells #[.slice b1 0 d1, .slice b2 0 d2] 30))
    have qB := kB2.cell
    have lB := kB2.lt
    clear kB1 kR1 HD1 HW1 hal
    have ht : ∃ m : Nat, max (0 : Int) N = (m : Int) ∧ m ≤ 25 := ⟨(max 0 N).toNat, by omega, by omega⟩
    obtain ⟨m, hm, hm25⟩ := ht
    have hm2 : min (30 : Int) (m : Int) = (m : Int) := by omega
    go_wp2_with fail
    refine (HID.out m (by omega) _).mono ?_
    rintro e w3 ⟨v3, rfl, hB3, hb3⟩
    obtain ⟨a3, c3, rfl⟩ := hB3.sized
    rw [length_iota] at hB3 ⊢
    have kR3 := Blk.by hb3 kR2
    have hs2 : w.heap.size + 2 ≤ (w1.alloc (.cells #[.slice b1 0 d1, .slice b2 0 d2] 30)).heap.size := by simp; omega
    obtain ⟨f1, f2, f3⟩ := lcfin (w := w) (z := (iota m, [])) (u1 := .slice a3 m c3) (u2 := .slice none 0 0) (HD2.out.by hb3) kR3 (HW2.out.ofB hb3) hB3 (BldI.nil _ w3.heap.size) (by omega) (by have := hb3.size; omega) hgl hg0 (.slice a3 m c3) (.slice none 0 0)
    have qR := kR3.cell
    have fR := kR3.free
    have lR := kR3.lt
    have hli : (iota m).length = m := length_iota m
    have HLI := Lib.hid hli
    clear hli kR2 kR3 hb3 HD2 HW2 hB3 qB lB kB2 hm hm2 hs2
    go_wp2
    first
    | exact bodyPost_ret (v := .agg #[.slice a3 m c3, .slice none 0 0]) (by simp [results, Tryz.results25, go_sem, *]) rfl ⟨_, rfl, (iota m, []), f1, ⟨by dsimp only; rw [HLI.out]; omega, by simp⟩, f2, f3⟩
    | exact bodyPost_ret (v := .agg #[.slice a3 m c3, .slice none 0 0]) (by simp [results, Tryz.results25, go_sem, *]) rfl ⟨_, (iota m, []), rfl, f1, ⟨by dsimp only; rw [HLI.out]; omega, by simp⟩, f2, f3⟩
  | true =>
    have hz : iniR x = iniS x := by unfold iniR; rw [hx]; rfl
    rw [hz] at p1 p2 ⊢
    have hcb := coB_ini hx
    have hl1 := (coB_lens hcb).1
    have hl2 := (coB_lens hcb).2.1
    obtain ⟨P, hP⟩ : ∃ P, (iniS x).1.length = P := ⟨_, rfl⟩
    rw [hP] at hl1 p1 ⊢
    rw [hl2, HE.out.2.1] at p2 ⊢
    rw [HE.out.1] at hl1
    have HL1 := Lib.hid hl1
    have hPb : P ≤ 25 := by omega
    clear hl1
    have HP0 := Lib.hid hP
    have hal : Below w1.heap.size w1 (w1.alloc (.cells #[.slice b1 P d1, .slice b2 L d2] 30)) := (Below.refl _ w1).alloc (Nat.le_refl _) _
    have HL2 : Hid (LC W0 g sv n w w1.heap.size (.int .i64 N) (.slice a1 L c1) (.slice a2 L2 c2) (.slice b1 P d1) (.slice b2 L d2) (iniS x) (w1.alloc (.cells #[.slice b1 P d1, .slice b2 L d2] 30))) := Lib.hid ⟨HD1.out.by hal, Blk.by hal kB1, Blk.by hal kR1, Blk.new _ rfl, ⟨l1, h1, l2, h2, p1.by hal, p2.by hal, by omega, by omega, by omega, by omega, q3, .inl p1.1, .inl p2.1⟩, HW1.out.alloc _⟩
    have HCB := Lib.hid hcb
    have qC := HL2.out.c.cell
    have lC := HL2.out.c.lt
    have hC2 : w.heap.size + 2 ≤ w1.heap.size := by omega
    clear p1 p2 q1 q2 q3 hal hcb hz kB1 kR1 HD1 HW1 hP hl2
    go_wp2_with fail
    generalize w1.alloc (.cells #[.slice b1 P d1, .slice b2 L d2] 30) = w2 at *
    generalize w1.heap.size = C at *
    refine (HN.out 3 _ HL2.out.src (by omega)).mono ?_
    rintro e w3 ⟨y, rfl, hy0, hy1, hD3, ho3⟩
    obtain ⟨m, rfl⟩ : ∃ m : Nat, y = (m : Int) := ⟨y.toNat, by omega⟩
    have HL3 := Lib.hid (HL2.out.only ho3 hD3 hgl hC2)
    clear hD3 ho3 HL2 qC lC
    go_wp2
    go_loopw [7] (fun zz wr => ∃ (k : Nat) (b1 b2 : Option Addr) (d1 d2 : Nat) (z : List Int × List Int), zz = .int .i64 (k : Int) ∧ k ≤ 2 ∧ Hid (coB x z = true) ∧ Hid (LC W0 g sv n w C (.int .i64 N) (.slice a1 L c1) (.slice a2 L2 c2) (.slice b1 P d1) (.slice b2 L d2) z wr)) (fun zz _ => (intOf zz).toNat)
    case atStart => exact ⟨m, b1, b2, d1, d2, iniS x, by go_num, by omega, HCB, HL3⟩
    case round =>
      clear HL3 HCB HP0
      obtain ⟨k, b1, b2, d1, d2, z, rfl, hk, HCB, HL⟩ := hrel
      by_cases hk0 : 0 < k
      · obtain ⟨r, rfl⟩ : ∃ r, k = r + 1 := ⟨k - 1, by omega⟩
        have hkp : (0 : Int) < ((r + 1 : Nat) : Int) := by omega
        have qB := HL.out.b.cell
        have lB := HL.out.b.lt
        have qC := HL.out.c.cell
        have lC := HL.out.c.lt
        go_wp2_with fail
        refine (HRS.out z _ _ _ (HV.out.past HL.out.wi (Nat.le_refl _)).nl HL.out.co).mono ?_
        rintro e w4 ⟨v4, rfl, hP4, hb4⟩
        obtain ⟨t1, t2, l1, h1, l2, h2, rfl, p1, p2, q1, q2, q3⟩ := hP4
        have hrf : refR x z = refS x z := by unfold refR; rw [if_pos HCB.out]
        rw [hrf] at p1 p2
        have hcr := coB_ref HCB.out
        obtain ⟨e1, f1, rfl⟩ := p1.sized
        obtain ⟨e2, f2, rfl⟩ := p2.sized
        have hlp : (refS x z).1.length = P := by have := (coB_lens hcr).1; rw [HE.out.1] at this; have h1 := HL1.out; omega
        have hlq : (refS x z).2.length = L := by have := (coB_lens hcr).2.1; rw [HE.out.2.1] at this; exact this
        rw [hlp] at p1 ⊢
        rw [hlq] at p2 ⊢
        have HCR := Lib.hid hcr
        have hs4 := hb4.size
        have hwr := HL.out.wi.size
        have kC4 := Blk.by hb4 HL.out.c
        have hCw := HL.out.c.lt
        have qC4 := kC4.cell
        have fC4 := kC4.free
        have lC4 := kC4.lt
        have HX := Lib.hid (show LC W0 g sv n w C (.int .i64 N) (.slice a1 L c1) (.slice a2 L2 c2) (.slice e1 P f1) (.slice e2 L f2) (refS x z) ((w4.setCell ⟨C, 0, none⟩ (.slice e1 P f1)).setCell ⟨C, 1, none⟩ (.slice e2 L f2)) from
          ⟨((HL.out.src.by hb4).apart (by omega) (by omega)).apart (by omega) (by omega), ((Blk.by hb4 HL.out.b).apart C 0 _ (by omega)).apart C 1 _ (by omega), ((Blk.by hb4 HL.out.r).apart C 0 _ (by omega)).apart C 1 _ (by omega), kC4.set2, ⟨l1, h1, l2, h2, (p1.offC kC4).offC (kC4.set _ _), (p2.offC kC4).offC (kC4.set _ _), by omega, by omega, by omega, by omega, q3, .inr (by omega), .inr (by omega)⟩, ((HL.out.wi.ofB hb4).new _ _ _ (by omega)).new _ _ _ (by omega)⟩)
        clear p1 p2 q1 q2 q3 hrf hcr hb4 hlp hlq kC4 qB lB qC lC HL HCB
        go_wp2
        exact ⟨⟨r, e1, e2, f1, f2, refS x z, by go_num, by omega, HCR, HX⟩, by simp [intOf]⟩
      · obtain rfl : k = 0 := by omega
        have hk9 : ¬ (0 : Int) < ((0 : Nat) : Int) := by omega
        have HZL := Lib.hid (show z.1.length = P ∧ z.2.length = L from ⟨by have := (coB_lens HCB.out).1; rw [HE.out.1] at this; have h1 := HL1.out; omega, by have := (coB_lens HCB.out).2.1; rw [HE.out.2.1] at this; exact this⟩)
        clear HCB
        go_wp2_with fail
        refine (HN.out 3 _ HL.out.src (by omega)).mono ?_
        rintro e w5 ⟨y, rfl, hy0, hy1, hD5, ho5⟩
        obtain ⟨m2, rfl⟩ : ∃ m : Nat, y = (m : Int) := ⟨y.toNat, by omega⟩
        have HL5 := Lib.hid (HL.out.only ho5 hD5 hgl hC2)
        clear hD5 ho5 HL
        go_wp2
        go_loopw [8] (fun zz wr => ∃ (k : Nat) (z : List Int × List Int), zz = .int .i64 (k : Int) ∧ k ≤ 2 ∧ Hid (z.1.length = P ∧ z.2.length = L) ∧ Hid (LC W0 g sv n w C (.int .i64 N) (.slice a1 L c1) (.slice a2 L2 c2) (.slice b1 P d1) (.slice b2 L d2) z wr)) (fun zz _ => (intOf zz).toNat)
        case atStart => exact ⟨m2, z, by go_num, by omega, HZL, HL5⟩
        case round =>
          clear HL5 HZL
          obtain ⟨k, z, rfl, hk, HZL, HL⟩ := hrel
          have qC0 : wr.cell? ⟨C, 0, none⟩ = some (.slice b1 P d1) := HL.out.c.cell 0
          have lC := HL.out.c.lt
          by_cases hk0 : 0 < k ∧ 0 < P
          · obtain ⟨r, rfl⟩ : ∃ r, k = r + 1 := ⟨k - 1, by omega⟩
            have hkp : (0 : Int) < ((r + 1 : Nat) : Int) := by omega
            have hPp : (0 : Int) < (P : Int) := by omega
            have hP25 : (P : Int) ≤ 25 := by omega
            go_wp2_with fail
            refine (HN.out (P : Int) _ HL.out.src (by omega)).mono ?_
            rintro e w6 ⟨i0, rfl, hi0, hi1, hD6, ho6⟩
            obtain ⟨i, rfl⟩ : ∃ i : Nat, i0 = (i : Int) := ⟨i0.toNat, by omega⟩
            have hiP : i < P := by omega
            have HL6 := Lib.hid (HL.out.only ho6 hD6 hgl hC2)
            clear hD6 ho6 HL qC0 lC
            have q6 : w6.cell? ⟨C, 0, none⟩ = some (.slice b1 P d1) := HL6.out.c.cell 0
            have l6 := HL6.out.c.lt
            go_upto_region 12 with fail
            have hS : (fun w' : World => w'.cell? ⟨C, 0, none⟩ = some (.slice b1 P d1)) { w6 with drawn := w6.drawn + 1 } := q6
            refine wp_region_any (by kernel_rfl) (wpAny_of_E (S := fun w' : World => w'.cell? ⟨C, 0, none⟩ = some (.slice b1 P d1)) (l := 6) _ _ _ _ ?_)
            change wpAnyE _ _ _ _ _ _ _ _ _ w6.drew
            refine wpAnyE_takeL (i := 0) (v := ?_) rfl (by kernel_rfl) (fun _ _ _ h => h) (Or.inl ⟨by rfl, ?_⟩) hS ?_
            rotate_left
            · intro w hSw; (try dsimp only at hSw); go_simp; (try with_reducible rfl)
            try simp only [Act.put, List.setIfInBounds_toArray, List.set_cons_zero, List.set_cons_succ]
            refine wpAnyE_takeL (i := 1) (v := ?_) rfl (by kernel_rfl) (fun _ _ _ h => h) (Or.inl ⟨by rfl, ?_⟩) hS ?_
            rotate_left
            · intro w hSw; (try dsimp only at hSw); go_simp; (try with_reducible rfl)
            try simp only [Act.put, List.setIfInBounds_toArray, List.set_cons_zero, List.set_cons_succ]
            refine wpAnyE_takeL (i := 2) (v := ?_) rfl (by kernel_rfl) (fun _ _ _ h => h) (Or.inl ⟨by rfl, ?_⟩) hS ?_
            rotate_left
            · intro w hSw; (try dsimp only at hSw); go_simp; (try with_reducible rfl)
            try simp only [Act.put, List.setIfInBounds_toArray, List.set_cons_zero, List.set_cons_succ]
            refine wpAnyE_takeL (i := 3) (v := ?_) rfl (by kernel_rfl) (fun _ _ _ h => h) (Or.inl ⟨by rfl, ?_⟩) hS ?_
            rotate_left
            · intro w hSw; (try dsimp only at hSw); go_simp; (try with_reducible rfl)
            try simp only [Act.put, List.setIfInBounds_toArray, List.set_cons_zero, List.set_cons_succ]
            refine wpAnyE_oneL (k := 4) (by kernel_rfl) rfl (fun K hK => ?_)
            go_simp
            go_at_call 46
            refine (HN.out 3 _ (HL6.out.src.by (below_of_drewN w6 1)) (by omega)).mono ?_
            rintro e w7 ⟨y, rfl, hy0, hy1, hD7, ho7⟩
            have HL7 := Lib.hid ((HL6.out.drew).only ho7 hD7 hgl hC2)
            have q7 : w7.cell? ⟨C, 0, none⟩ = some (.slice b1 P d1) := HL7.out.c.cell 0
            have l7 := HL7.out.c.lt
            clear hD7 ho7 HL6 q6 l6 hS
            refine hK.out _ _ (fun _ => q7) ?_
            try simp only [Act.put, List.setIfInBounds_toArray, List.set_cons_zero, List.set_cons_succ]
            obtain ⟨l1, h1, l2, h2, p1, p2, q1, q2, q3, q4, q5, q6c⟩ := HL7.out.p
            obtain ⟨G, cap, cs, hv, hG, kG, hcl⟩ := p1.blk (by rw [HZL.out.1]; omega)
            obtain ⟨rfl, rfl⟩ : b1 = some ⟨G, 0, none⟩ ∧ d1 = cap := by simp at hv; exact ⟨hv.1, hv.2.2⟩
            clear hv
            obtain ⟨zi, hzi⟩ : ∃ zi, z.1[i]? = some zi := ⟨_, List.getElem?_eq_getElem (by rw [HZL.out.1]; exact hiP)⟩
            have cGi := hcl i zi hzi
            have fGi := kG.free i
            have lGi := kG.lt
            have hCG : ¬ C = G := fun e => by
              subst e
              exact absurd (HL7.out.c.differ2 kG) (by decide)
            have hid : decide (i < P) = true := decide_eq_true hiP
            have hii : (i : Int) < (P : Int) := by omega
            have HX := Lib.hid (show LC W0 g sv n w C (.int .i64 N) (.slice a1 L c1) (.slice a2 L2 c2) (.slice (some ⟨G, 0, none⟩) P d1) (.slice b2 L d2) (z.1.set i y, z.2) (w7.setCell ⟨G, i, none⟩ (.int .i64 y)) from
              ⟨HL7.out.src.apart (by omega) (by omega), HL7.out.b.apart G i _ (by omega), HL7.out.r.apart G i _ (by omega), HL7.out.c.apart G i _ hCG, ⟨l1, h1, l2, h2, p1.setAt i y, BldI.past (Within.off (g := G) _) p2 (by omega), q1, q2, q3, q4, q5, q6c⟩, HL7.out.wi.new _ _ _ (by omega)⟩)
            have HZ2 := Lib.hid (show (z.1.set i y).length = P ∧ z.2.length = L from ⟨by rw [List.length_set]; exact HZL.out.1, HZL.out.2⟩)
            clear hcl hzi kG p1 p2 q1 q2 q3 q4 q5 q6c HL7 HZL
            refine wpAnyE_oneL (k := 5) (by kernel_rfl) rfl (fun K hK => ?_)
            go_simp
            refine hK.out _ _ (fun _ => q7) ?_
            try simp only [Act.put, List.setIfInBounds_toArray, List.set_cons_zero, List.set_cons_succ]
            refine wpAnyE_oneL (k := 6) (by kernel_rfl) rfl (fun K hK => ?_)
            go_simp
            refine hK.out _ _ (fun h => absurd rfl h) ?_
            refine wpAnyE_done (by kernel_rfl) ?_ _
            go_wp2
            exact ⟨⟨r, (z.1.set i y, z.2), by go_num, by omega, HZ2, HX⟩, by simp [intOf]⟩
          · rcases (show k = 0 ∨ (0 < k ∧ P = 0) by omega) with h | ⟨h, h'⟩
            · subst h
              have h9 : ¬ (0 : Int) < ((0 : Nat) : Int) := by omega
              clear hk0
              go_wp2_with fail
              refine (HN.out 24 _ HL.out.src (by omega)).mono ?_
              rintro e w8 ⟨y, rfl, hy0, hy1, hD8, ho8⟩
              have HL8 := Lib.hid (HL.out.only ho8 hD8 hgl hC2)
              clear hD8 ho8 HL qC0 lC
              have cC0 : w8.cell? ⟨C, 0, none⟩ = some (.slice b1 P d1) := HL8.out.c.cell 0
              have cC1 : w8.cell? ⟨C, 1, none⟩ = some (.slice b2 L d2) := HL8.out.c.cell 1
              have lC := HL8.out.c.lt
              by_cases y0 : y = 0
              · subst y0
                obtain ⟨l1, h1, l2, h2, p1, p2, q1, q2, q3, q4, q5, q6, q7⟩ := HL8.out.p
                have HP1 := Lib.hid p1
                have HP2 := Lib.hid p2
                have hal : Below w8.heap.size w8 (w8.alloc (.cells #[.int .i64 0] 2)) := (Below.refl _ w8).alloc (Nat.le_refl _) _
                have HC9 := Lib.hid (Blk.by hal HL8.out.c)
                have HR9 := Lib.hid (Blk.by hal HL8.out.r)
                have HS9 := Lib.hid (HL8.out.src.by hal)
                have HW9 := Lib.hid (HL8.out.wi.alloc (.cells #[.int .i64 0] 2))
                have hz1 := Lib.hid HZL.out.1
                have hz2 := Lib.hid HZL.out.2
                clear p1 p2 HL8
                go_wp2_with (refine list_pushIn (by rfl) _ _ (by rfl) l1 h1 (.slice b1 P d1) z.1 [0] P hz1.out (by rfl) (HP1.out.by hal) w8.heap.size 1 #[.int .i64 0] (by rfl) rfl (by omega) (Blk.new _ rfl) rfl (by omega) (by omega) ?_; intro a9 c9 w9 hB9 hw9; have HB9 := Lib.hid hB9; clear hB9; have kC9 := hw9.blk HC9.out (by omega); have kR9 := hw9.blk HR9.out (by omega); have c90 : w9.cell? ⟨C, 0, none⟩ = some (.slice b1 P d1) := kC9.cell 0; have c91 : w9.cell? ⟨C, 1, none⟩ = some (.slice b2 L d2) := kC9.cell 1; have f9 := kC9.free; have l9 := kC9.lt; have qR9 := kR9.cell; have fR9 := kR9.free; have lR9 := kR9.lt)
                obtain ⟨f1, f2, f3⟩ := lcfin (w := w) (z := (z.1 ++ [0], z.2)) (u1 := (.slice a9 (P + 1) c9)) (u2 := (.slice b2 L d2)) ((Src1.withinC hw9 HS9.out (by omega) (by omega)).apart (b := C) (o := 0) (v := (.slice a9 (P + 1) c9)) (by omega) (by omega)) (kR9.apart C 0 (.slice a9 (P + 1) c9) (by omega)) ((HW9.out.newerL hw9 (by omega)).new C 0 (.slice a9 (P + 1) c9) (by omega)) (HB9.out.offC kC9) ((BldI.past hw9 (HP2.out.by hal) (by omega)).offC kC9) (by omega) (by omega) hgl hg0 (.slice a9 (P + 1) c9) (.slice b2 L d2)
                have hn1 := hz1.out
                have hn2 := hz2.out
                first
                | exact bodyPost_ret (v := .agg #[(.slice a9 (P + 1) c9), (.slice b2 L d2)]) (by simp [results, Tryz.results25, go_sem, *]) rfl ⟨_, rfl, (z.1 ++ [0], z.2), f1, ⟨by simp only [List.length_append, List.length_cons, List.length_nil]; omega, by simp only [List.length_append, List.length_cons, List.length_nil]; omega⟩, f2, f3⟩
                | exact bodyPost_ret (v := .agg #[(.slice a9 (P + 1) c9), (.slice b2 L d2)]) (by simp [results, Tryz.results25, go_sem, *]) rfl ⟨_, (z.1 ++ [0], z.2), rfl, f1, ⟨by simp only [List.length_append, List.length_cons, List.length_nil]; omega, by simp only [List.length_append, List.length_cons, List.length_nil]; omega⟩, f2, f3⟩
              by_cases y1 : y = 1
              · subst y1
                obtain ⟨l1, h1, l2, h2, p1, p2, q1, q2, q3, q4, q5, q6, q7⟩ := HL8.out.p
                have HP1 := Lib.hid p1
                have HP2 := Lib.hid p2
                have hal : Below w8.heap.size w8 (w8.alloc (.cells #[.int .i64 0] 2)) := (Below.refl _ w8).alloc (Nat.le_refl _) _
                have HC9 := Lib.hid (Blk.by hal HL8.out.c)
                have HR9 := Lib.hid (Blk.by hal HL8.out.r)
                have HS9 := Lib.hid (HL8.out.src.by hal)
                have HW9 := Lib.hid (HL8.out.wi.alloc (.cells #[.int .i64 0] 2))
                have hz1 := Lib.hid HZL.out.1
                have hz2 := Lib.hid HZL.out.2
                clear p1 p2 HL8
                go_wp2_with (refine list_pushIn (by rfl) _ _ (by rfl) l2 h2 (.slice b2 L d2) z.2 [0] L hz2.out (by rfl) (HP2.out.by hal) w8.heap.size 1 #[.int .i64 0] (by rfl) rfl (by omega) (Blk.new _ rfl) rfl (by omega) (by omega) ?_; intro a9 c9 w9 hB9 hw9; have HB9 := Lib.hid hB9; clear hB9; have kC9 := hw9.blk HC9.out (by omega); have kR9 := hw9.blk HR9.out (by omega); have c90 : w9.cell? ⟨C, 0, none⟩ = some (.slice b1 P d1) := kC9.cell 0; have c91 : w9.cell? ⟨C, 1, none⟩ = some (.slice b2 L d2) := kC9.cell 1; have f9 := kC9.free; have l9 := kC9.lt; have qR9 := kR9.cell; have fR9 := kR9.free; have lR9 := kR9.lt)
                obtain ⟨f1, f2, f3⟩ := lcfin (w := w) (z := (z.1, z.2 ++ [0])) (u1 := (.slice b1 P d1)) (u2 := (.slice a9 (L + 1) c9)) ((Src1.withinC hw9 HS9.out (by omega) (by omega)).apart (b := C) (o := 1) (v := (.slice a9 (L + 1) c9)) (by omega) (by omega)) (kR9.apart C 1 (.slice a9 (L + 1) c9) (by omega)) ((HW9.out.newerL hw9 (by omega)).new C 1 (.slice a9 (L + 1) c9) (by omega)) ((BldI.past hw9 (HP1.out.by hal) (by omega)).offC kC9) (HB9.out.offC kC9) (by omega) (by omega) hgl hg0 (.slice b1 P d1) (.slice a9 (L + 1) c9)
                have hn1 := hz1.out
                have hn2 := hz2.out
                first
                | exact bodyPost_ret (v := .agg #[(.slice b1 P d1), (.slice a9 (L + 1) c9)]) (by simp [results, Tryz.results25, go_sem, *]) rfl ⟨_, rfl, (z.1, z.2 ++ [0]), f1, ⟨by simp only [List.length_append, List.length_cons, List.length_nil]; omega, by simp only [List.length_append, List.length_cons, List.length_nil]; omega⟩, f2, f3⟩
                | exact bodyPost_ret (v := .agg #[(.slice b1 P d1), (.slice a9 (L + 1) c9)]) (by simp [results, Tryz.results25, go_sem, *]) rfl ⟨_, (z.1, z.2 ++ [0]), rfl, f1, ⟨by simp only [List.length_append, List.length_cons, List.length_nil]; omega, by simp only [List.length_append, List.length_cons, List.length_nil]; omega⟩, f2, f3⟩
              by_cases y2 : y = 2
              · subst y2
                by_cases hLp : 0 < L
                · have hLi : (0 : Int) < (L : Int) := by omega
                  have hLd : decide (0 < L) = true := decide_eq_true hLp
                  obtain ⟨_, _, l2, h2, _, p2, _⟩ := HL8.out.p
                  obtain ⟨G, cap, cs, hv, hG, kG, hcl⟩ := p2.blk (by rw [HZL.out.2]; omega)
                  obtain ⟨rfl, rfl⟩ : b2 = some ⟨G, 0, none⟩ ∧ d2 = cap := by simp at hv; exact ⟨hv.1, hv.2.2⟩
                  clear hv hG kG hcl p2
                  go_upto_region 20 with fail
                  have hS : (fun w' : World => w'.cell? ⟨C, 1, none⟩ = some (.slice (some ⟨G, 0, none⟩) L d2)) { w8 with drawn := w8.drawn + 1 } := cC1
                  refine wp_region_any (by kernel_rfl) (wpAny_of_E (S := fun w' : World => w'.cell? ⟨C, 1, none⟩ = some (.slice (some ⟨G, 0, none⟩) L d2)) (l := 8) _ _ _ _ ?_)
                  change wpAnyE _ _ _ _ _ _ _ _ _ w8.drew
                  refine wpAnyE_takeL (i := 0) (v := ?_) rfl (by kernel_rfl) (fun _ _ _ h => h) (Or.inl ⟨by rfl, ?_⟩) hS ?_
                  rotate_left
                  · intro w hSw; (try dsimp only at hSw); go_simp; (try with_reducible rfl)
                  try simp only [Act.put, List.setIfInBounds_toArray, List.set_cons_zero, List.set_cons_succ]
                  refine wpAnyE_takeL (i := 1) (v := ?_) rfl (by kernel_rfl) (fun _ _ _ h => h) (Or.inl ⟨by rfl, ?_⟩) hS ?_
                  rotate_left
                  · intro w hSw; (try dsimp only at hSw); go_simp; (try with_reducible rfl)
                  try simp only [Act.put, List.setIfInBounds_toArray, List.set_cons_zero, List.set_cons_succ]
                  refine wpAnyE_takeL (i := 3) (v := ?_) rfl (by kernel_rfl) (fun _ _ _ h => h) (Or.inl ⟨by rfl, ?_⟩) hS ?_
                  rotate_left
                  · intro w hSw; (try dsimp only at hSw); go_simp; (try with_reducible rfl)
                  try simp only [Act.put, List.setIfInBounds_toArray, List.set_cons_zero, List.set_cons_succ]
                  refine wpAnyE_twoL (k := 2) (k' := 4) (by kernel_rfl) rfl rfl (fun K hK => ?_) (fun K hK => ?_)
                  · go_simp
                    have kI0 : Blk (w8.drew.alloc (.cells #[.int .i64 (-1), .int .i64 23, .int .i64 24] 2)) w8.drew.heap.size #[.int .i64 (-1), .int .i64 23, .int .i64 24] 2 := Blk.new _ rfl
                    have hal : Below w8.heap.size w8 (w8.drew.alloc (.cells #[.int .i64 (-1), .int .i64 23, .int .i64 24] 2)) := ((Below.refl _ w8).drew).alloc (Nat.le_refl _) _
                    have hgI : g < w8.drew.heap.size := HL8.out.src.lt
                    have HLA := Lib.hid (HL8.out.by hal)
                    refine hK.out _ _ (fun _ => HLA.out.c.cell 1) ?_
                    try simp only [Act.put, List.setIfInBounds_toArray, List.set_cons_zero, List.set_cons_succ]
                    refine wpAnyE_oneL (k := 4) (by kernel_rfl) rfl (fun K hK => ?_)
                    go_simp
                    go_at_call 46
                    refine (HN.out 3 _ HLA.out.src (by omega)).mono ?_
                    rintro e w7 ⟨d, rfl, hd0, hd1, hD7, ho7⟩
                    obtain ⟨dn, rfl⟩ : ∃ dn : Nat, d = (dn : Int) := ⟨d.toNat, (by omega)⟩
                    have HL7 := Lib.hid (HLA.out.only ho7 hD7 hgl hC2)
                    have kI7 := ho7.blk kI0 (by omega)
                    simp only [World.size_drew] at kI7
                    obtain ⟨I, hI⟩ : ∃ I, w8.heap.size = I := ⟨_, rfl⟩
                    rw [hI] at kI7
                    rw [hI]
                    clear hI hal kI0 hgI HLA hD7 ho7 HL8 cC0 cC1 lC
                    have c71 : w7.cell? ⟨C, 1, none⟩ = some (.slice (some ⟨G, 0, none⟩) L d2) := HL7.out.c.cell 1
                    refine hK.out _ _ (fun _ => c71) ?_
                    try simp only [Act.put, List.setIfInBounds_toArray, List.set_cons_zero, List.set_cons_succ]
                    obtain ⟨l1, h1, l2, h2, p1, p2, q1, q2, q3, q4, q5, q6, q7⟩ := HL7.out.p
                    obtain ⟨G2, cap2, cs2, hv2, hG2, kG, hcl⟩ := p2.blk (by rw [HZL.out.2]; omega)
                    obtain ⟨rfl, rfl⟩ : G = G2 ∧ d2 = cap2 := by simp at hv2; exact ⟨hv2.1, hv2.2.2⟩
                    clear hv2
                    obtain ⟨V, hV⟩ := three_v dn (by omega)
                    have cI7 : w7.cell? ⟨I, dn, none⟩ = some (.int .i64 V) := (kI7.cell _).trans hV
                    have lI7 := kI7.lt
                    have hdn : decide (dn < 3) = true := decide_eq_true (by omega)
                    have hdi : (dn : Int) < 3 := by omega
                    obtain ⟨z0, hz0⟩ : ∃ z0, z.2[0]? = some z0 := ⟨_, List.getElem?_eq_getElem (by rw [HZL.out.2]; omega)⟩
                    have cG0 := hcl 0 z0 hz0
                    have fG0 := kG.free 0
                    have lG := kG.lt
                    have hCG : ¬ C = G := fun e => by
                      subst e
                      exact absurd (HL7.out.c.differ2 kG) (by decide)
                    have l7 := HL7.out.c.lt
                    have HX := Lib.hid (show LC W0 g sv n w C (.int .i64 N) (.slice a1 L c1) (.slice a2 L2 c2) (.slice b1 P d1) (.slice (some ⟨G, 0, none⟩) L d2) (z.1, z.2.set 0 V) (w7.setCell ⟨G, 0, none⟩ (.int .i64 V)) from
                      ⟨HL7.out.src.apart (by omega) (by omega), HL7.out.b.apart G 0 _ (by omega), HL7.out.r.apart G 0 _ (by omega), HL7.out.c.apart G 0 _ hCG, ⟨l1, h1, l2, h2, BldI.past (Within.off (g := G) _) p1 (by omega), p2.setAt 0 V, q1, q2, q3, q4, q5, q6, q7⟩, HL7.out.wi.new _ _ _ (by omega)⟩)
                    have HZ2 := Lib.hid (show z.1.length = P ∧ (z.2.set 0 V).length = L from ⟨HZL.out.1, by rw [List.length_set]; exact HZL.out.2⟩)
                    clear hcl hz0 kG p1 p2 q1 q2 q3 q4 q5 q6 q7 HL7 HZL hV kI7 hS
                    refine wpAnyE_oneL (k := 5) (by kernel_rfl) rfl (fun K hK => ?_)
                    go_simp
                    refine hK.out _ _ (fun _ => c71) ?_
                    try simp only [Act.put, List.setIfInBounds_toArray, List.set_cons_zero, List.set_cons_succ]
                    refine wpAnyE_oneL (k := 6) (by kernel_rfl) rfl (fun K hK => ?_)
                    go_simp
                    refine hK.out _ _ (fun _ => c71) ?_
                    try simp only [Act.put, List.setIfInBounds_toArray, List.set_cons_zero, List.set_cons_succ]
                    refine wpAnyE_oneL (k := 7) (by kernel_rfl) rfl (fun K hK => ?_)
                    go_simp
                    refine hK.out _ _ (fun _ => c71) ?_
                    try simp only [Act.put, List.setIfInBounds_toArray, List.set_cons_zero, List.set_cons_succ]
                    refine wpAnyE_oneL (k := 8) (by kernel_rfl) rfl (fun K hK => ?_)
                    go_simp
                    refine hK.out _ _ (fun h => absurd rfl h) ?_
                    refine wpAnyE_done (by kernel_rfl) ?_ _
                    generalize w7.setCell ⟨G, 0, none⟩ (.int .i64 V) = wX at *
                    clear c71 cI7 lI7 cG0 fG0 lG l7 hdn hdi
                    have cX0 : wX.cell? ⟨C, 0, none⟩ = some (.slice b1 P d1) := HX.out.c.cell 0
                    have cX1 : wX.cell? ⟨C, 1, none⟩ = some (.slice (some ⟨G, 0, none⟩) L d2) := HX.out.c.cell 1
                    have lX := HX.out.c.lt
                    have qR := HX.out.r.cell
                    have fR := HX.out.r.free
                    have lR := HX.out.r.lt
                    go_wp2
                    obtain ⟨f1, f2, f3⟩ := LC.fin HX.out hgl hg0 (.slice b1 P d1) (.slice (some ⟨G, 0, none⟩) L d2)
                    have hz1 := HZ2.out.1
                    have hz2 := HZ2.out.2
                    first
                    | exact bodyPost_ret (v := .agg #[.slice b1 P d1, .slice (some ⟨G, 0, none⟩) L d2]) (by simp [results, Tryz.results25, go_sem, *]) rfl ⟨_, rfl, (z.1, z.2.set 0 V), f1, ⟨by dsimp only; omega, by dsimp only; omega⟩, f2, f3⟩
                    | exact bodyPost_ret (v := .agg #[.slice b1 P d1, .slice (some ⟨G, 0, none⟩) L d2]) (by simp [results, Tryz.results25, go_sem, *]) rfl ⟨_, (z.1, z.2.set 0 V), rfl, f1, ⟨by dsimp only; omega, by dsimp only; omega⟩, f2, f3⟩
                  · go_simp
                    go_at_call 46
                    refine (HN.out 3 _ (HL8.out.src.by (below_of_drewN w8 1)) (by omega)).mono ?_
                    rintro e w6 ⟨d, rfl, hd0, hd1, hD6, ho6⟩
                    obtain ⟨dn, rfl⟩ : ∃ dn : Nat, d = (dn : Int) := ⟨d.toNat, (by omega)⟩
                    have HL6 := Lib.hid ((HL8.out.drew).only ho6 hD6 hgl hC2)
                    refine hK.out _ _ (fun _ => HL6.out.c.cell 1) ?_
                    try simp only [Act.put, List.setIfInBounds_toArray, List.set_cons_zero, List.set_cons_succ]
                    refine wpAnyE_oneL (k := 2) (by kernel_rfl) rfl (fun K hK => ?_)
                    go_simp
                    have hal : Below w6.heap.size w6 (w6.alloc (.cells #[.int .i64 (-1), .int .i64 23, .int .i64 24] 2)) := (Below.refl _ w6).alloc (Nat.le_refl _) _
                    have kI7 : Blk (w6.alloc (.cells #[.int .i64 (-1), .int .i64 23, .int .i64 24] 2)) w6.heap.size #[.int .i64 (-1), .int .i64 23, .int .i64 24] 2 := Blk.new _ rfl
                    have HL7 := Lib.hid (HL6.out.by hal)
                    obtain ⟨I, hI⟩ : ∃ I, w6.heap.size = I := ⟨_, rfl⟩
                    rw [hI] at kI7
                    rw [hI]
                    clear hI hal hD6 ho6 HL8 HL6 cC0 cC1 lC
                    generalize w6.alloc (.cells #[.int .i64 (-1), .int .i64 23, .int .i64 24] 2) = w7 at *
                    have c71 : w7.cell? ⟨C, 1, none⟩ = some (.slice (some ⟨G, 0, none⟩) L d2) := HL7.out.c.cell 1
                    refine hK.out _ _ (fun _ => c71) ?_
                    try simp only [Act.put, List.setIfInBounds_toArray, List.set_cons_zero, List.set_cons_succ]
                    obtain ⟨l1, h1, l2, h2, p1, p2, q1, q2, q3, q4, q5, q6, q7⟩ := HL7.out.p
                    obtain ⟨G2, cap2, cs2, hv2, hG2, kG, hcl⟩ := p2.blk (by rw [HZL.out.2]; omega)
                    obtain ⟨rfl, rfl⟩ : G = G2 ∧ d2 = cap2 := by simp at hv2; exact ⟨hv2.1, hv2.2.2⟩
                    clear hv2
                    obtain ⟨V, hV⟩ := three_v dn (by omega)
                    have cI7 : w7.cell? ⟨I, dn, none⟩ = some (.int .i64 V) := (kI7.cell _).trans hV
                    have lI7 := kI7.lt
                    have hdn : decide (dn < 3) = true := decide_eq_true (by omega)
                    have hdi : (dn : Int) < 3 := by omega
                    obtain ⟨z0, hz0⟩ : ∃ z0, z.2[0]? = some z0 := ⟨_, List.getElem?_eq_getElem (by rw [HZL.out.2]; omega)⟩
                    have cG0 := hcl 0 z0 hz0
                    have fG0 := kG.free 0
                    have lG := kG.lt
                    have hCG : ¬ C = G := fun e => by
                      subst e
                      exact absurd (HL7.out.c.differ2 kG) (by decide)
                    have l7 := HL7.out.c.lt
                    have HX := Lib.hid (show LC W0 g sv n w C (.int .i64 N) (.slice a1 L c1) (.slice a2 L2 c2) (.slice b1 P d1) (.slice (some ⟨G, 0, none⟩) L d2) (z.1, z.2.set 0 V) (w7.setCell ⟨G, 0, none⟩ (.int .i64 V)) from
                      ⟨HL7.out.src.apart (by omega) (by omega), HL7.out.b.apart G 0 _ (by omega), HL7.out.r.apart G 0 _ (by omega), HL7.out.c.apart G 0 _ hCG, ⟨l1, h1, l2, h2, BldI.past (Within.off (g := G) _) p1 (by omega), p2.setAt 0 V, q1, q2, q3, q4, q5, q6, q7⟩, HL7.out.wi.new _ _ _ (by omega)⟩)
                    have HZ2 := Lib.hid (show z.1.length = P ∧ (z.2.set 0 V).length = L from ⟨HZL.out.1, by rw [List.length_set]; exact HZL.out.2⟩)
                    clear hcl hz0 kG p1 p2 q1 q2 q3 q4 q5 q6 q7 HL7 HZL hV kI7 hS
                    refine wpAnyE_oneL (k := 5) (by kernel_rfl) rfl (fun K hK => ?_)
                    go_simp
                    refine hK.out _ _ (fun _ => c71) ?_
                    try simp only [Act.put, List.setIfInBounds_toArray, List.set_cons_zero, List.set_cons_succ]
                    refine wpAnyE_oneL (k := 6) (by kernel_rfl) rfl (fun K hK => ?_)
                    go_simp
                    refine hK.out _ _ (fun _ => c71) ?_
                    try simp only [Act.put, List.setIfInBounds_toArray, List.set_cons_zero, List.set_cons_succ]
                    refine wpAnyE_oneL (k := 7) (by kernel_rfl) rfl (fun K hK => ?_)
                    go_simp
                    refine hK.out _ _ (fun _ => c71) ?_
                    try simp only [Act.put, List.setIfInBounds_toArray, List.set_cons_zero, List.set_cons_succ]
                    refine wpAnyE_oneL (k := 8) (by kernel_rfl) rfl (fun K hK => ?_)
                    go_simp
                    refine hK.out _ _ (fun h => absurd rfl h) ?_
                    refine wpAnyE_done (by kernel_rfl) ?_ _
                    generalize w7.setCell ⟨G, 0, none⟩ (.int .i64 V) = wX at *
                    clear c71 cI7 lI7 cG0 fG0 lG l7 hdn hdi
                    have cX0 : wX.cell? ⟨C, 0, none⟩ = some (.slice b1 P d1) := HX.out.c.cell 0
                    have cX1 : wX.cell? ⟨C, 1, none⟩ = some (.slice (some ⟨G, 0, none⟩) L d2) := HX.out.c.cell 1
                    have lX := HX.out.c.lt
                    have qR := HX.out.r.cell
                    have fR := HX.out.r.free
                    have lR := HX.out.r.lt
                    go_wp2
                    obtain ⟨f1, f2, f3⟩ := LC.fin HX.out hgl hg0 (.slice b1 P d1) (.slice (some ⟨G, 0, none⟩) L d2)
                    have hz1 := HZ2.out.1
                    have hz2 := HZ2.out.2
                    first
                    | exact bodyPost_ret (v := .agg #[.slice b1 P d1, .slice (some ⟨G, 0, none⟩) L d2]) (by simp [results, Tryz.results25, go_sem, *]) rfl ⟨_, rfl, (z.1, z.2.set 0 V), f1, ⟨by dsimp only; omega, by dsimp only; omega⟩, f2, f3⟩
                    | exact bodyPost_ret (v := .agg #[.slice b1 P d1, .slice (some ⟨G, 0, none⟩) L d2]) (by simp [results, Tryz.results25, go_sem, *]) rfl ⟨_, (z.1, z.2.set 0 V), rfl, f1, ⟨by dsimp only; omega, by dsimp only; omega⟩, f2, f3⟩
                · have hLi : ¬ (0 : Int) < (L : Int) := by omega
                  have qR := HL8.out.r.cell
                  have fR := HL8.out.r.free
                  have lR := HL8.out.r.lt
                  go_wp2
                  obtain ⟨f1, f2, f3⟩ := LC.fin HL8.out hgl hg0 (.slice b1 P d1) (.slice b2 L d2)
                  have hz1 := HZL.out.1
                  have hz2 := HZL.out.2
                  first
                  | exact bodyPost_ret (v := .agg #[.slice b1 P d1, .slice b2 L d2]) (by simp [results, Tryz.results25, go_sem, *]) rfl ⟨_, rfl, z, f1, ⟨by omega, by omega⟩, f2, f3⟩
                  | exact bodyPost_ret (v := .agg #[.slice b1 P d1, .slice b2 L d2]) (by simp [results, Tryz.results25, go_sem, *]) rfl ⟨_, z, rfl, f1, ⟨by omega, by omega⟩, f2, f3⟩
              have e0 : (y == 0) = false := by simpa using y0
              have e1 : (y == 1) = false := by simpa using y1
              have e2 : (y == 2) = false := by simpa using y2
              clear y0 y1 y2
              have qR := HL8.out.r.cell
              have fR := HL8.out.r.free
              have lR := HL8.out.r.lt
              go_wp2
              obtain ⟨f1, f2, f3⟩ := LC.fin HL8.out hgl hg0 (.slice b1 P d1) (.slice b2 L d2)
              have hz1 := HZL.out.1
              have hz2 := HZL.out.2
              first
              | exact bodyPost_ret (v := .agg #[.slice b1 P d1, .slice b2 L d2]) (by simp [results, Tryz.results25, go_sem, *]) rfl ⟨_, rfl, z, f1, ⟨by omega, by omega⟩, f2, f3⟩
              | exact bodyPost_ret (v := .agg #[.slice b1 P d1, .slice b2 L d2]) (by simp [results, Tryz.results25, go_sem, *]) rfl ⟨_, z, rfl, f1, ⟨by omega, by omega⟩, f2, f3⟩
            · have h9 : (0 : Int) < (k : Int) := by omega
              have h8 : ¬ (0 : Int) < (P : Int) := by omega
              have HPZ := Lib.hid h'
              clear hk0 h h'
              go_wp2_with fail
              refine (HN.out 24 _ HL.out.src (by omega)).mono ?_
              rintro e w8 ⟨y, rfl, hy0, hy1, hD8, ho8⟩
              have HL8 := Lib.hid (HL.out.only ho8 hD8 hgl hC2)
              clear hD8 ho8 HL qC0 lC
              have cC0 : w8.cell? ⟨C, 0, none⟩ = some (.slice b1 P d1) := HL8.out.c.cell 0
              have cC1 : w8.cell? ⟨C, 1, none⟩ = some (.slice b2 L d2) := HL8.out.c.cell 1
              have lC := HL8.out.c.lt
              by_cases y0 : y = 0
              · subst y0
                obtain ⟨l1, h1, l2, h2, p1, p2, q1, q2, q3, q4, q5, q6, q7⟩ := HL8.out.p
                have HP1 := Lib.hid p1
                have HP2 := Lib.hid p2
                have hal : Below w8.heap.size w8 (w8.alloc (.cells #[.int .i64 0] 2)) := (Below.refl _ w8).alloc (Nat.le_refl _) _
                have HC9 := Lib.hid (Blk.by hal HL8.out.c)
                have HR9 := Lib.hid (Blk.by hal HL8.out.r)
                have HS9 := Lib.hid (HL8.out.src.by hal)
                have HW9 := Lib.hid (HL8.out.wi.alloc (.cells #[.int .i64 0] 2))
                have hz1 := Lib.hid HZL.out.1
                have hz2 := Lib.hid HZL.out.2
                clear p1 p2 HL8
                go_wp2_with (refine list_pushIn (by rfl) _ _ (by rfl) l1 h1 (.slice b1 P d1) z.1 [0] P hz1.out (by rfl) (HP1.out.by hal) w8.heap.size 1 #[.int .i64 0] (by rfl) rfl (by omega) (Blk.new _ rfl) rfl (by omega) (by omega) ?_; intro a9 c9 w9 hB9 hw9; have HB9 := Lib.hid hB9; clear hB9; have kC9 := hw9.blk HC9.out (by omega); have kR9 := hw9.blk HR9.out (by omega); have c90 : w9.cell? ⟨C, 0, none⟩ = some (.slice b1 P d1) := kC9.cell 0; have c91 : w9.cell? ⟨C, 1, none⟩ = some (.slice b2 L d2) := kC9.cell 1; have f9 := kC9.free; have l9 := kC9.lt; have qR9 := kR9.cell; have fR9 := kR9.free; have lR9 := kR9.lt)
                obtain ⟨f1, f2, f3⟩ := lcfin (w := w) (z := (z.1 ++ [0], z.2)) (u1 := (.slice a9 (P + 1) c9)) (u2 := (.slice b2 L d2)) ((Src1.withinC hw9 HS9.out (by omega) (by omega)).apart (b := C) (o := 0) (v := (.slice a9 (P + 1) c9)) (by omega) (by omega)) (kR9.apart C 0 (.slice a9 (P + 1) c9) (by omega)) ((HW9.out.newerL hw9 (by omega)).new C 0 (.slice a9 (P + 1) c9) (by omega)) (HB9.out.offC kC9) ((BldI.past hw9 (HP2.out.by hal) (by omega)).offC kC9) (by omega) (by omega) hgl hg0 (.slice a9 (P + 1) c9) (.slice b2 L d2)
                have hn1 := hz1.out
                have hn2 := hz2.out
                first
                | exact bodyPost_ret (v := .agg #[(.slice a9 (P + 1) c9), (.slice b2 L d2)]) (by simp [results, Tryz.results25, go_sem, *]) rfl ⟨_, rfl, (z.1 ++ [0], z.2), f1, ⟨by simp only [List.length_append, List.length_cons, List.length_nil]; omega, by simp only [List.length_append, List.length_cons, List.length_nil]; omega⟩, f2, f3⟩
                | exact bodyPost_ret (v := .agg #[(.slice a9 (P + 1) c9), (.slice b2 L d2)]) (by simp [results, Tryz.results25, go_sem, *]) rfl ⟨_, (z.1 ++ [0], z.2), rfl, f1, ⟨by simp only [List.length_append, List.length_cons, List.length_nil]; omega, by simp only [List.length_append, List.length_cons, List.length_nil]; omega⟩, f2, f3⟩
              by_cases y1 : y = 1
              · subst y1
                obtain ⟨l1, h1, l2, h2, p1, p2, q1, q2, q3, q4, q5, q6, q7⟩ := HL8.out.p
                have HP1 := Lib.hid p1
                have HP2 := Lib.hid p2
                have hal : Below w8.heap.size w8 (w8.alloc (.cells #[.int .i64 0] 2)) := (Below.refl _ w8).alloc (Nat.le_refl _) _
                have HC9 := Lib.hid (Blk.by hal HL8.out.c)
                have HR9 := Lib.hid (Blk.by hal HL8.out.r)
                have HS9 := Lib.hid (HL8.out.src.by hal)
                have HW9 := Lib.hid (HL8.out.wi.alloc (.cells #[.int .i64 0] 2))
                have hz1 := Lib.hid HZL.out.1
                have hz2 := Lib.hid HZL.out.2
                clear p1 p2 HL8
                go_wp2_with (refine list_pushIn (by rfl) _ _ (by rfl) l2 h2 (.slice b2 L d2) z.2 [0] L hz2.out (by rfl) (HP2.out.by hal) w8.heap.size 1 #[.int .i64 0] (by rfl) rfl (by omega) (Blk.new _ rfl) rfl (by omega) (by omega) ?_; intro a9 c9 w9 hB9 hw9; have HB9 := Lib.hid hB9; clear hB9; have kC9 := hw9.blk HC9.out (by omega); have kR9 := hw9.blk HR9.out (by omega); have c90 : w9.cell? ⟨C, 0, none⟩ = some (.slice b1 P d1) := kC9.cell 0; have c91 : w9.cell? ⟨C, 1, none⟩ = some (.slice b2 L d2) := kC9.cell 1; have f9 := kC9.free; have l9 := kC9.lt; have qR9 := kR9.cell; have fR9 := kR9.free; have lR9 := kR9.lt)
                obtain ⟨f1, f2, f3⟩ := lcfin (w := w) (z := (z.1, z.2 ++ [0])) (u1 := (.slice b1 P d1)) (u2 := (.slice a9 (L + 1) c9)) ((Src1.withinC hw9 HS9.out (by omega) (by omega)).apart (b := C) (o := 1) (v := (.slice a9 (L + 1) c9)) (by omega) (by omega)) (kR9.apart C 1 (.slice a9 (L + 1) c9) (by omega)) ((HW9.out.newerL hw9 (by omega)).new C 1 (.slice a9 (L + 1) c9) (by omega)) ((BldI.past hw9 (HP1.out.by hal) (by omega)).offC kC9) (HB9.out.offC kC9) (by omega) (by omega) hgl hg0 (.slice b1 P d1) (.slice a9 (L + 1) c9)
                have hn1 := hz1.out
                have hn2 := hz2.out
                first
                | exact bodyPost_ret (v := .agg #[(.slice b1 P d1), (.slice a9 (L + 1) c9)]) (by simp [results, Tryz.results25, go_sem, *]) rfl ⟨_, rfl, (z.1, z.2 ++ [0]), f1, ⟨by simp only [List.length_append, List.length_cons, List.length_nil]; omega, by simp only [List.length_append, List.length_cons, List.length_nil]; omega⟩, f2, f3⟩
                | exact bodyPost_ret (v := .agg #[(.slice b1 P d1), (.slice a9 (L + 1) c9)]) (by simp [results, Tryz.results25, go_sem, *]) rfl ⟨_, (z.1, z.2 ++ [0]), rfl, f1, ⟨by simp only [List.length_append, List.length_cons, List.length_nil]; omega, by simp only [List.length_append, List.length_cons, List.length_nil]; omega⟩, f2, f3⟩
              by_cases y2 : y = 2
              · subst y2
                by_cases hLp : 0 < L
                · have hLi : (0 : Int) < (L : Int) := by omega
                  have hLd : decide (0 < L) = true := decide_eq_true hLp
                  obtain ⟨_, _, l2, h2, _, p2, _⟩ := HL8.out.p
                  obtain ⟨G, cap, cs, hv, hG, kG, hcl⟩ := p2.blk (by rw [HZL.out.2]; omega)
                  obtain ⟨rfl, rfl⟩ : b2 = some ⟨G, 0, none⟩ ∧ d2 = cap := by simp at hv; exact ⟨hv.1, hv.2.2⟩
                  clear hv hG kG hcl p2
                  go_upto_region 20 with fail
                  have hS : (fun w' : World => w'.cell? ⟨C, 1, none⟩ = some (.slice (some ⟨G, 0, none⟩) L d2)) { w8 with drawn := w8.drawn + 1 } := cC1
                  refine wp_region_any (by kernel_rfl) (wpAny_of_E (S := fun w' : World => w'.cell? ⟨C, 1, none⟩ = some (.slice (some ⟨G, 0, none⟩) L d2)) (l := 8) _ _ _ _ ?_)
                  change wpAnyE _ _ _ _ _ _ _ _ _ w8.drew
                  refine wpAnyE_takeL (i := 0) (v := ?_) rfl (by kernel_rfl) (fun _ _ _ h => h) (Or.inl ⟨by rfl, ?_⟩) hS ?_
                  rotate_left
                  · intro w hSw; (try dsimp only at hSw); go_simp; (try with_reducible rfl)
                  try simp only [Act.put, List.setIfInBounds_toArray, List.set_cons_zero, List.set_cons_succ]
                  refine wpAnyE_takeL (i := 1) (v := ?_) rfl (by kernel_rfl) (fun _ _ _ h => h) (Or.inl ⟨by rfl, ?_⟩) hS ?_
                  rotate_left
                  · intro w hSw; (try dsimp only at hSw); go_simp; (try with_reducible rfl)
                  try simp only [Act.put, List.setIfInBounds_toArray, List.set_cons_zero, List.set_cons_succ]
                  refine wpAnyE_takeL (i := 3) (v := ?_) rfl (by kernel_rfl) (fun _ _ _ h => h) (Or.inl ⟨by rfl, ?_⟩) hS ?_
                  rotate_left
                  · intro w hSw; (try dsimp only at hSw); go_simp; (try with_reducible rfl)
                  try simp only [Act.put, List.setIfInBounds_toArray, List.set_cons_zero, List.set_cons_succ]
                  refine wpAnyE_twoL (k := 2) (k' := 4) (by kernel_rfl) rfl rfl (fun K hK => ?_) (fun K hK => ?_)
                  · go_simp
                    have kI0 : Blk (w8.drew.alloc (.cells #[.int .i64 (-1), .int .i64 23, .int .i64 24] 2)) w8.drew.heap.size #[.int .i64 (-1), .int .i64 23, .int .i64 24] 2 := Blk.new _ rfl
                    have hal : Below w8.heap.size w8 (w8.drew.alloc (.cells #[.int .i64 (-1), .int .i64 23, .int .i64 24] 2)) := ((Below.refl _ w8).drew).alloc (Nat.le_refl _) _
                    have hgI : g < w8.drew.heap.size := HL8.out.src.lt
                    have HLA := Lib.hid (HL8.out.by hal)
                    refine hK.out _ _ (fun _ => HLA.out.c.cell 1) ?_
                    try simp only [Act.put, List.setIfInBounds_toArray, List.set_cons_zero, List.set_cons_succ]
                    refine wpAnyE_oneL (k := 4) (by kernel_rfl) rfl (fun K hK => ?_)
                    go_simp
                    go_at_call 46
                    refine (HN.out 3 _ HLA.out.src (by omega)).mono ?_
                    rintro e w7 ⟨d, rfl, hd0, hd1, hD7, ho7⟩
                    obtain ⟨dn, rfl⟩ : ∃ dn : Nat, d = (dn : Int) := ⟨d.toNat, (by omega)⟩
                    have HL7 := Lib.hid (HLA.out.only ho7 hD7 hgl hC2)
                    have kI7 := ho7.blk kI0 (by omega)
                    simp only [World.size_drew] at kI7
                    obtain ⟨I, hI⟩ : ∃ I, w8.heap.size = I := ⟨_, rfl⟩
                    rw [hI] at kI7
                    rw [hI]
                    clear hI hal kI0 hgI HLA hD7 ho7 HL8 cC0 cC1 lC
                    have c71 : w7.cell? ⟨C, 1, none⟩ = some (.slice (some ⟨G, 0, none⟩) L d2) := HL7.out.c.cell 1
                    refine hK.out _ _ (fun _ => c71) ?_
                    try simp only [Act.put, List.setIfInBounds_toArray, List.set_cons_zero, List.set_cons_succ]
                    obtain ⟨l1, h1, l2, h2, p1, p2, q1, q2, q3, q4, q5, q6, q7⟩ := HL7.out.p
                    obtain ⟨G2, cap2, cs2, hv2, hG2, kG, hcl⟩ := p2.blk (by rw [HZL.out.2]; omega)
                    obtain ⟨rfl, rfl⟩ : G = G2 ∧ d2 = cap2 := by simp at hv2; exact ⟨hv2.1, hv2.2.2⟩
                    clear hv2
                    obtain ⟨V, hV⟩ := three_v dn (by omega)
                    have cI7 : w7.cell? ⟨I, dn, none⟩ = some (.int .i64 V) := (kI7.cell _).trans hV
                    have lI7 := kI7.lt
                    have hdn : decide (dn < 3) = true := decide_eq_true (by omega)
                    have hdi : (dn : Int) < 3 := by omega
                    obtain ⟨z0, hz0⟩ : ∃ z0, z.2[0]? = some z0 := ⟨_, List.getElem?_eq_getElem (by rw [HZL.out.2]; omega)⟩
                    have cG0 := hcl 0 z0 hz0
                    have fG0 := kG.free 0
                    have lG := kG.lt
                    have hCG : ¬ C = G := fun e => by
                      subst e
                      exact absurd (HL7.out.c.differ2 kG) (by decide)
                    have l7 := HL7.out.c.lt
                    have HX := Lib.hid (show LC W0 g sv n w C (.int .i64 N) (.slice a1 L c1) (.slice a2 L2 c2) (.slice b1 P d1) (.slice (some ⟨G, 0, none⟩) L d2) (z.1, z.2.set 0 V) (w7.setCell ⟨G, 0, none⟩ (.int .i64 V)) from
                      ⟨HL7.out.src.apart (by omega) (by omega), HL7.out.b.apart G 0 _ (by omega), HL7.out.r.apart G 0 _ (by omega), HL7.out.c.apart G 0 _ hCG, ⟨l1, h1, l2, h2, BldI.past (Within.off (g := G) _) p1 (by omega), p2.setAt 0 V, q1, q2, q3, q4, q5, q6, q7⟩, HL7.out.wi.new _ _ _ (by omega)⟩)
                    have HZ2 := Lib.hid (show z.1.length = P ∧ (z.2.set 0 V).length = L from ⟨HZL.out.1, by rw [List.length_set]; exact HZL.out.2⟩)
                    clear hcl hz0 kG p1 p2 q1 q2 q3 q4 q5 q6 q7 HL7 HZL hV kI7 hS
                    refine wpAnyE_oneL (k := 5) (by kernel_rfl) rfl (fun K hK => ?_)
                    go_simp
                    refine hK.out _ _ (fun _ => c71) ?_
                    try simp only [Act.put, List.setIfInBounds_toArray, List.set_cons_zero, List.set_cons_succ]
                    refine wpAnyE_oneL (k := 6) (by kernel_rfl) rfl (fun K hK => ?_)
                    go_simp
                    refine hK.out _ _ (fun _ => c71) ?_
                    try simp only [Act.put, List.setIfInBounds_toArray, List.set_cons_zero, List.set_cons_succ]
                    refine wpAnyE_oneL (k := 7) (by kernel_rfl) rfl (fun K hK => ?_)
                    go_simp
                    refine hK.out _ _ (fun _ => c71) ?_
                    try simp only [Act.put, List.setIfInBounds_toArray, List.set_cons_zero, List.set_cons_succ]
                    refine wpAnyE_oneL (k := 8) (by kernel_rfl) rfl (fun K hK => ?_)
                    go_simp
                    refine hK.out _ _ (fun h => absurd rfl h) ?_
                    refine wpAnyE_done (by kernel_rfl) ?_ _
                    generalize w7.setCell ⟨G, 0, none⟩ (.int .i64 V) = wX at *
                    clear c71 cI7 lI7 cG0 fG0 lG l7 hdn hdi
                    have cX0 : wX.cell? ⟨C, 0, none⟩ = some (.slice b1 P d1) := HX.out.c.cell 0
                    have cX1 : wX.cell? ⟨C, 1, none⟩ = some (.slice (some ⟨G, 0, none⟩) L d2) := HX.out.c.cell 1
                    have lX := HX.out.c.lt
                    have qR := HX.out.r.cell
                    have fR := HX.out.r.free
                    have lR := HX.out.r.lt
                    go_wp2
                    obtain ⟨f1, f2, f3⟩ := LC.fin HX.out hgl hg0 (.slice b1 P d1) (.slice (some ⟨G, 0, none⟩) L d2)
                    have hz1 := HZ2.out.1
                    have hz2 := HZ2.out.2
                    first
                    | exact bodyPost_ret (v := .agg #[.slice b1 P d1, .slice (some ⟨G, 0, none⟩) L d2]) (by simp [results, Tryz.results25, go_sem, *]) rfl ⟨_, rfl, (z.1, z.2.set 0 V), f1, ⟨by dsimp only; omega, by dsimp only; omega⟩, f2, f3⟩
                    | exact bodyPost_ret (v := .agg #[.slice b1 P d1, .slice (some ⟨G, 0, none⟩) L d2]) (by simp [results, Tryz.results25, go_sem, *]) rfl ⟨_, (z.1, z.2.set 0 V), rfl, f1, ⟨by dsimp only; omega, by dsimp only; omega⟩, f2, f3⟩
                  · go_simp
                    go_at_call 46
                    refine (HN.out 3 _ (HL8.out.src.by (below_of_drewN w8 1)) (by omega)).mono ?_
                    rintro e w6 ⟨d, rfl, hd0, hd1, hD6, ho6⟩
                    obtain ⟨dn, rfl⟩ : ∃ dn : Nat, d = (dn : Int) := ⟨d.toNat, (by omega)⟩
                    have HL6 := Lib.hid ((HL8.out.drew).only ho6 hD6 hgl hC2)
                    refine hK.out _ _ (fun _ => HL6.out.c.cell 1) ?_
                    try simp only [Act.put, List.setIfInBounds_toArray, List.set_cons_zero, List.set_cons_succ]
                    refine wpAnyE_oneL (k := 2) (by kernel_rfl) rfl (fun K hK => ?_)
                    go_simp
                    have hal : Below w6.heap.size w6 (w6.alloc (.cells #[.int .i64 (-1), .int .i64 23, .int .i64 24] 2)) := (Below.refl _ w6).alloc (Nat.le_refl _) _
                    have kI7 : Blk (w6.alloc (.cells #[.int .i64 (-1), .int .i64 23, .int .i64 24] 2)) w6.heap.size #[.int .i64 (-1), .int .i64 23, .int .i64 24] 2 := Blk.new _ rfl
                    have HL7 := Lib.hid (HL6.out.by hal)
                    obtain ⟨I, hI⟩ : ∃ I, w6.heap.size = I := ⟨_, rfl⟩
                    rw [hI] at kI7
                    rw [hI]
                    clear hI hal hD6 ho6 HL8 HL6 cC0 cC1 lC
                    generalize w6.alloc (.cells #[.int .i64 (-1), .int .i64 23, .int .i64 24] 2) = w7 at *
                    have c71 : w7.cell? ⟨C, 1, none⟩ = some (.slice (some ⟨G, 0, none⟩) L d2) := HL7.out.c.cell 1
                    refine hK.out _ _ (fun _ => c71) ?_
                    try simp only [Act.put, List.setIfInBounds_toArray, List.set_cons_zero, List.set_cons_succ]
                    obtain ⟨l1, h1, l2, h2, p1, p2, q1, q2, q3, q4, q5, q6, q7⟩ := HL7.out.p
                    obtain ⟨G2, cap2, cs2, hv2, hG2, kG, hcl⟩ := p2.blk (by rw [HZL.out.2]; omega)
                    obtain ⟨rfl, rfl⟩ : G = G2 ∧ d2 = cap2 := by simp at hv2; exact ⟨hv2.1, hv2.2.2⟩
                    clear hv2
                    obtain ⟨V, hV⟩ := three_v dn (by omega)
                    have cI7 : w7.cell? ⟨I, dn, none⟩ = some (.int .i64 V) := (kI7.cell _).trans hV
                    have lI7 := kI7.lt
                    have hdn : decide (dn < 3) = true := decide_eq_true (by omega)
                    have hdi : (dn : Int) < 3 := by omega
                    obtain ⟨z0, hz0⟩ : ∃ z0, z.2[0]? = some z0 := ⟨_, List.getElem?_eq_getElem (by rw [HZL.out.2]; omega)⟩
                    have cG0 := hcl 0 z0 hz0
                    have fG0 := kG.free 0
                    have lG := kG.lt
                    have hCG : ¬ C = G := fun e => by
                      subst e
                      exact absurd (HL7.out.c.differ2 kG) (by decide)
                    have l7 := HL7.out.c.lt
                    have HX := Lib.hid (show LC W0 g sv n w C (.int .i64 N) (.slice a1 L c1) (.slice a2 L2 c2) (.slice b1 P d1) (.slice (some ⟨G, 0, none⟩) L d2) (z.1, z.2.set 0 V) (w7.setCell ⟨G, 0, none⟩ (.int .i64 V)) from
                      ⟨HL7.out.src.apart (by omega) (by omega), HL7.out.b.apart G 0 _ (by omega), HL7.out.r.apart G 0 _ (by omega), HL7.out.c.apart G 0 _ hCG, ⟨l1, h1, l2, h2, BldI.past (Within.off (g := G) _) p1 (by omega), p2.setAt 0 V, q1, q2, q3, q4, q5, q6, q7⟩, HL7.out.wi.new _ _ _ (by omega)⟩)
                    have HZ2 := Lib.hid (show z.1.length = P ∧ (z.2.set 0 V).length = L from ⟨HZL.out.1, by rw [List.length_set]; exact HZL.out.2⟩)
                    clear hcl hz0 kG p1 p2 q1 q2 q3 q4 q5 q6 q7 HL7 HZL hV kI7 hS
                    refine wpAnyE_oneL (k := 5) (by kernel_rfl) rfl (fun K hK => ?_)
                    go_simp
                    refine hK.out _ _ (fun _ => c71) ?_
                    try simp only [Act.put, List.setIfInBounds_toArray, List.set_cons_zero, List.set_cons_succ]
                    refine wpAnyE_oneL (k := 6) (by kernel_rfl) rfl (fun K hK => ?_)
                    go_simp
                    refine hK.out _ _ (fun _ => c71) ?_
                    try simp only [Act.put, List.setIfInBounds_toArray, List.set_cons_zero, List.set_cons_succ]
                    refine wpAnyE_oneL (k := 7) (by kernel_rfl) rfl (fun K hK => ?_)
                    go_simp
                    refine hK.out _ _ (fun _ => c71) ?_
                    try simp only [Act.put, List.setIfInBounds_toArray, List.set_cons_zero, List.set_cons_succ]
                    refine wpAnyE_oneL (k := 8) (by kernel_rfl) rfl (fun K hK => ?_)
                    go_simp
                    refine hK.out _ _ (fun h => absurd rfl h) ?_
                    refine wpAnyE_done (by kernel_rfl) ?_ _
                    generalize w7.setCell ⟨G, 0, none⟩ (.int .i64 V) = wX at *
                    clear c71 cI7 lI7 cG0 fG0 lG l7 hdn hdi
                    have cX0 : wX.cell? ⟨C, 0, none⟩ = some (.slice b1 P d1) := HX.out.c.cell 0
                    have cX1 : wX.cell? ⟨C, 1, none⟩ = some (.slice (some ⟨G, 0, none⟩) L d2) := HX.out.c.cell 1
                    have lX := HX.out.c.lt
                    have qR := HX.out.r.cell
                    have fR := HX.out.r.free
                    have lR := HX.out.r.lt
                    go_wp2
                    obtain ⟨f1, f2, f3⟩ := LC.fin HX.out hgl hg0 (.slice b1 P d1) (.slice (some ⟨G, 0, none⟩) L d2)
                    have hz1 := HZ2.out.1
                    have hz2 := HZ2.out.2
                    first
                    | exact bodyPost_ret (v := .agg #[.slice b1 P d1, .slice (some ⟨G, 0, none⟩) L d2]) (by simp [results, Tryz.results25, go_sem, *]) rfl ⟨_, rfl, (z.1, z.2.set 0 V), f1, ⟨by dsimp only; omega, by dsimp only; omega⟩, f2, f3⟩
                    | exact bodyPost_ret (v := .agg #[.slice b1 P d1, .slice (some ⟨G, 0, none⟩) L d2]) (by simp [results, Tryz.results25, go_sem, *]) rfl ⟨_, (z.1, z.2.set 0 V), rfl, f1, ⟨by dsimp only; omega, by dsimp only; omega⟩, f2, f3⟩
                · have hLi : ¬ (0 : Int) < (L : Int) := by omega
                  have qR := HL8.out.r.cell
                  have fR := HL8.out.r.free
                  have lR := HL8.out.r.lt
                  go_wp2
                  obtain ⟨f1, f2, f3⟩ := LC.fin HL8.out hgl hg0 (.slice b1 P d1) (.slice b2 L d2)
                  have hz1 := HZL.out.1
                  have hz2 := HZL.out.2
                  first
                  | exact bodyPost_ret (v := .agg #[.slice b1 P d1, .slice b2 L d2]) (by simp [results, Tryz.results25, go_sem, *]) rfl ⟨_, rfl, z, f1, ⟨by omega, by omega⟩, f2, f3⟩
                  | exact bodyPost_ret (v := .agg #[.slice b1 P d1, .slice b2 L d2]) (by simp [results, Tryz.results25, go_sem, *]) rfl ⟨_, z, rfl, f1, ⟨by omega, by omega⟩, f2, f3⟩
              have e0 : (y == 0) = false := by simpa using y0
              have e1 : (y == 1) = false := by simpa using y1
              have e2 : (y == 2) = false := by simpa using y2
              clear y0 y1 y2
              have qR := HL8.out.r.cell
              have fR := HL8.out.r.free
              have lR := HL8.out.r.lt
              go_wp2
              obtain ⟨f1, f2, f3⟩ := LC.fin HL8.out hgl hg0 (.slice b1 P d1) (.slice b2 L d2)
              have hz1 := HZL.out.1
              have hz2 := HZL.out.2
              first
              | exact bodyPost_ret (v := .agg #[.slice b1 P d1, .slice b2 L d2]) (by simp [results, Tryz.results25, go_sem, *]) rfl ⟨_, rfl, z, f1, ⟨by omega, by omega⟩, f2, f3⟩
              | exact bodyPost_ret (v := .agg #[.slice b1 P d1, .slice b2 L d2]) (by simp [results, Tryz.results25, go_sem, *]) rfl ⟨_, z, rfl, f1, ⟨by omega, by omega⟩, f2, f3⟩
end Go.Proofs.YtpaiiaajbojmnaaGreat

/- The draws of a netlist and a coloring for it. -/
namespace Go.Proofs.YtpaiiaajbojmnaaGreat
open Go.RowKit
set_option linter.unusedVariables false
set_option linter.unusedSimpArgs false

set_option maxRecDepth 100000 in
set_option maxHeartbeats 8000000 in
theorem drawIs_own (v0 : Value) (n : Nat) (w : World) (h : Bytes w v0 n) (hn : n ≤ 4096) :
    Calls Tryz.prog 11 #[v0] w fun e w' => ∃ (v u : Value) (x : Nl) (z : List Int × List Int), e = .returned (.tuple #[v, u]) ∧ Hid (NlO w.heap.size w' v x) ∧ Hid (Small x) ∧ Hid (MaO w.heap.size w' u z) ∧ (z.1.length ≤ 60 ∧ z.2.length ≤ 120) ∧ Below w.heap.size w w' := by
  have HB := Lib.hid h
  obtain ⟨w0, hw0⟩ : ∃ z, z = (w.alloc (.cells #[.int .i64 0, .slice none 0 0, .slice none 0 0] 27)).alloc (.cells #[.slice none 0 0, .slice none 0 0] 30) := ⟨_, rfl⟩
  have kR0 : Blk w0 w.heap.size #[.int .i64 0, .slice none 0 0, .slice none 0 0] 27 := by rw [hw0]; exact (Blk.new _ rfl).past _
  have kS0 : Blk w0 (w.heap.size + 1) #[.slice none 0 0, .slice none 0 0] 30 := by rw [hw0]; exact Blk.new _ (by simp)
  have hb0 : Below w.heap.size w w0 := by rw [hw0]; exact ((Below.refl _ w).alloc (Nat.le_refl _) _).alloc (by simp) _
  have hs0 : w0.heap.size = w.heap.size + 2 := by rw [hw0]; simp
  have hf := l01From_any v0 n w0 (HB.out.by hb0) hn
  obtain ⟨G, hG⟩ : ∃ G, w0.heap.size = G := ⟨_, rfl⟩
  rw [hG] at hf hs0
  have HF := Lib.hid hf
  have HDN := Lib.hid (fun w h => l29DrawNetlist_any w0 G v0 n w h)
  have HDC := Lib.hid (fun w hD x v hV hS => l29DrawColoring_any w0 G v0 n w hD x v hV hS)
  have hGw : w.heap.size + 1 < G := by omega
  have HG := Lib.hid hG
  clear h hf hs0 hG
  go_enter Tryz.func11, Tryz.ntmps11
  go_wp2_with fail
  (try rw [← hw0])
  clear hw0
  refine HF.out.mono ?_
  rintro e w1 ⟨rfl, hD1, hb1⟩
  have kR1 : Blk w1 w.heap.size _ 27 := Blk.by (by rw [HG.out]; exact hb1) kR0
  have kS1 : Blk w1 (w.heap.size + 1) _ 30 := Blk.by (by rw [HG.out]; exact hb1) kS0
  have HD1 := Lib.hid hD1
  have hG1 := hD1.lt
  clear hD1 hb1 kR0 kS0
  go_wp2_with fail
  refine (HDN.out _ HD1.out).mono ?_
  rintro e w2 ⟨v, x, rfl, HO, HS, HD2, HW2⟩
  obtain ⟨s1, s2, rfl, r1, r2⟩ := HO.out
  obtain ⟨a1, c1, rfl⟩ : ∃ a c, s1 = .slice a x.ds.length c := by obtain ⟨_, _, _, o⟩ := r1; exact o.sl.sized
  obtain ⟨a2, c2, rfl⟩ : ∃ a c, s2 = .slice a x.ps.length c := by obtain ⟨_, _, _, o⟩ := r2; exact o.sl.sized
  have kR2 := HW2.out.blk kR1 (by omega)
  have kS2 := HW2.out.blk kS1 (by omega)
  have hb2 : Below w.heap.size w w2 := below_on HD2.out.2.1 hb0
  have hsz2 := HW2.out.size
  have HO2 := Lib.hid (HO.out.low (show G + 1 ≤ w1.heap.size by omega))
  obtain ⟨N, hN⟩ : ∃ N, x.nets = N := ⟨_, rfl⟩
  obtain ⟨L, hL⟩ : ∃ L, x.ds.length = L := ⟨_, rfl⟩
  obtain ⟨L2, hL2⟩ : ∃ L, x.ps.length = L := ⟨_, rfl⟩
  rw [hN, hL, hL2] at HO2 ⊢
  clear HO HW2 kR1 kS1 r1 r2 hb0 HD1 hN hL hL2
  have hal : Below w2.heap.size w2 (w2.alloc (.cells #[.int .i64 N, .slice a1 L c1, .slice a2 L2 c2] 27)) := (Below.refl _ w2).alloc (Nat.le_refl _) _
  have kA3 : Blk (w2.alloc (.cells #[.int .i64 N, .slice a1 L c1, .slice a2 L2 c2] 27)) w2.heap.size #[.int .i64 N, .slice a1 L c1, .slice a2 L2 c2] 27 := Blk.new _ rfl
  have kR3 := Blk.by hal kR2
  have kS3 := Blk.by hal kS2
  have HO3 := Lib.hid (HO2.out.by hal)
  have HD3 := Lib.hid (HD2.out.by hal)
  have hb3 := below_on hal hb2
  have hsz3 := hal.size
  clear hal kR2 kS2 HO2 HD2 hb2
  go_upto_region 3 with fail
  generalize w2.alloc (.cells #[.int .i64 N, .slice a1 L c1, .slice a2 L2 c2] 27) = w3 at *
  generalize w2.heap.size = A at *
  have hS : (fun w' : World => Blk w' A #[.int .i64 N, .slice a1 L c1, .slice a2 L2 c2] 27) { w3 with drawn := w3.drawn + 1 } := kA3.drew
  refine wp_region_any (by kernel_rfl) (wpAny_of_E (S := fun w' : World => Blk w' A #[.int .i64 N, .slice a1 L c1, .slice a2 L2 c2] 27) (l := 5) _ _ _ _ ?_)
  change wpAnyE _ _ _ _ _ _ _ _ _ w3.drew
  refine wpAnyE_takeL (i := 0) (v := ?_) rfl (by kernel_rfl) (fun _ _ _ h => h) (Or.inl ⟨by rfl, ?_⟩) hS ?_
  rotate_left
  · intro w hSw; (try dsimp only at hSw); have hc0 := hSw.cell 0; have hc1 := hSw.cell 1; have hc2 := hSw.cell 2; have hl := hSw.lt; clear hSw; go_simp; (try with_reducible rfl)
  try simp only [Act.put, List.setIfInBounds_toArray, List.set_cons_zero, List.set_cons_succ]
  refine wpAnyE_takeL (i := 1) (v := ?_) rfl (by kernel_rfl) (fun _ _ _ h => h) (Or.inl ⟨by rfl, ?_⟩) hS ?_
  rotate_left
  · intro w hSw; (try dsimp only at hSw); have hc0 := hSw.cell 0; have hc1 := hSw.cell 1; have hc2 := hSw.cell 2; have hl := hSw.lt; clear hSw; go_simp; (try with_reducible rfl)
  try simp only [Act.put, List.setIfInBounds_toArray, List.set_cons_zero, List.set_cons_succ]
  refine wpAnyE_takeL (i := 2) (v := ?_) rfl (by kernel_rfl) (fun _ _ _ h => h) (Or.inl ⟨by rfl, ?_⟩) hS ?_
  rotate_left
  · intro w hSw; (try dsimp only at hSw); have hc0 := hSw.cell 0; have hc1 := hSw.cell 1; have hc2 := hSw.cell 2; have hl := hSw.lt; clear hSw; go_simp; (try with_reducible rfl)
  try simp only [Act.put, List.setIfInBounds_toArray, List.set_cons_zero, List.set_cons_succ]
  refine wpAnyE_oneL (k := 3) (by kernel_rfl) rfl (fun K hK => ?_)
  go_simp
  go_at_call 25
  refine (HDC.out _ (HD3.out.by (below_of_drewN w3 1)) x _ (HO3.out.by (below_of_drewN w3 1)) HS.out).mono ?_
  rintro e w4 ⟨u, z, rfl, hM4, hzl, hD4, hW4⟩
  have kA4 : Blk w4 A _ 27 := hW4.blk kA3.drew (by omega)
  have kR4 : Blk w4 w.heap.size _ 27 := hW4.blk kR3.drew (by omega)
  have kS4 : Blk w4 (w.heap.size + 1) _ 30 := hW4.blk kS3.drew (by omega)
  have hO4 := (HO3.out.by (below_of_drewN w3 1)).past hW4 (Nat.le_refl _)
  have hb4 : Below w.heap.size w w4 := hW4.below (below_on (below_of_drewN w3 1) hb3) (by omega)
  have hsz4 : w3.heap.size ≤ w4.heap.size := hW4.size
  have hM4' := MaO.low hM4 (show w.heap.size + 2 ≤ w3.drew.heap.size from by show w.heap.size + 2 ≤ w3.heap.size; omega)
  obtain ⟨t1, t2, rfl, i1, i2⟩ := id hM4'
  obtain ⟨_, _, _, j1⟩ := i1
  obtain ⟨_, _, _, j2⟩ := i2
  obtain ⟨e1, f1, rfl⟩ := j1.sl.len
  obtain ⟨e2, f2, rfl⟩ := j2.sl.len
  have HO5 := Lib.hid (NlO.low (NlO.past (Within.off (g := w.heap.size + 1) (o := 1) (.slice e2 z.2.length f2)) (NlO.past (Within.off (g := w.heap.size + 1) (o := 0) (.slice e1 z.1.length f1)) (NlO.past (Within.off (g := w.heap.size) (o := 2) (.slice a2 L2 c2)) (NlO.past (Within.off (g := w.heap.size) (o := 1) (.slice a1 L c1)) (NlO.past (Within.off (g := w.heap.size) (o := 0) (.int .i64 N)) hO4 (by omega)) (by omega)) (by omega)) (by omega)) (by omega)) (show w.heap.size ≤ G + 1 by omega))
  have HM5 := Lib.hid (MaO.low (MaO.past (Within.off (g := w.heap.size + 1) (o := 1) (.slice e2 z.2.length f2)) (MaO.past (Within.off (g := w.heap.size + 1) (o := 0) (.slice e1 z.1.length f1)) (MaO.past (Within.off (g := w.heap.size) (o := 2) (.slice a2 L2 c2)) (MaO.past (Within.off (g := w.heap.size) (o := 1) (.slice a1 L c1)) (MaO.past (Within.off (g := w.heap.size) (o := 0) (.int .i64 N)) hM4' (by omega)) (by omega)) (by omega)) (by omega)) (by omega)) (show w.heap.size ≤ w.heap.size + 2 by omega))
  have hb5 : Below w.heap.size w (((((w4.setCell ⟨w.heap.size, 0, none⟩ (.int .i64 N)).setCell ⟨w.heap.size, 1, none⟩ (.slice a1 L c1)).setCell ⟨w.heap.size, 2, none⟩ (.slice a2 L2 c2)).setCell ⟨w.heap.size + 1, 0, none⟩ (.slice e1 z.1.length f1)).setCell ⟨w.heap.size + 1, 1, none⟩ (.slice e2 z.2.length f2)) :=
    ((((hb4.setCell (Nat.le_refl _) _).setCell (Nat.le_refl _) _).setCell (Nat.le_refl _) _).setCell (show w.heap.size ≤ w.heap.size + 1 by omega) _).setCell (show w.heap.size ≤ w.heap.size + 1 by omega) _
  have qR := kR4.cell
  have fR := kR4.free
  have lR := kR4.lt
  have qS := kS4.cell
  have fS := kS4.free
  have lS := kS4.lt
  have HZL := Lib.hid hzl
  clear hM4 hM4' hO4 hb4 hD4 hW4 j1 j2 kR3 kS3 HO3 HD3 hb3 hzl hS kR4 kS4 kA3
  refine hK.out _ _ (fun _ => kA4) ?_
  try simp only [Act.put, List.setIfInBounds_toArray, List.set_cons_zero, List.set_cons_succ]
  refine wpAnyE_oneL (k := 4) (by kernel_rfl) rfl (fun K hK => ?_)
  go_simp
  refine hK.out _ _ (fun _ => ((kA4.apart w.heap.size 0 (.int .i64 N) (by omega)).apart w.heap.size 1 (.slice a1 L c1) (by omega)).apart w.heap.size 2 (.slice a2 L2 c2) (by omega)) ?_
  try simp only [Act.put, List.setIfInBounds_toArray, List.set_cons_zero, List.set_cons_succ]
  refine wpAnyE_oneL (k := 5) (by kernel_rfl) rfl (fun K hK => ?_)
  go_simp
  refine hK.out _ _ (fun h => absurd rfl h) ?_
  refine wpAnyE_done (by kernel_rfl) ?_ _
  go_wp2
  exact bodyPost_ret (v := .tuple #[.agg #[.int .i64 N, .slice a1 L c1, .slice a2 L2 c2], .agg #[.slice e1 z.1.length f1, .slice e2 z.2.length f2]]) (by simp [results, Tryz.results11, go_sem, *]) rfl ⟨_, _, x, z, rfl, HO5, HS, HM5, HZL.out, hb5⟩

theorem MaO.cov {m : Nat} {w : World} {v : Value} {z : List Int × List Int} (h : MaO m w v z) : CoV w v z := by
  obtain ⟨s1, s2, e, ⟨_, _, _, h1⟩, _, _, _, h2⟩ := h
  exact ⟨s1, s2, e, h1.sl, h2.sl⟩
set_option maxRecDepth 100000 in
set_option maxHeartbeats 8000000 in
theorem drawRf_any (v0 : Value) (n : Nat) (w : World) (h : Bytes w v0 n) (hn : n ≤ 4096) :
    Calls Tryz.prog 5 #[v0] w fun e w' => ∃ (v u : Value) (x : Nl) (z : List Int × List Int), e = .returned (.tuple #[v, u]) ∧ Hid (NlV w' v x) ∧ Hid (Small x) ∧ Hid (CoV w' u z) ∧ (z.1.length ≤ 60 ∧ z.2.length ≤ 120) ∧ Below w.heap.size w w' := by
  have HB := Lib.hid h
  have HDR := Lib.hid (fun w h => drawIs_own v0 n w h hn)
  obtain ⟨w0, hw0⟩ : ∃ z, z = (w.alloc (.cells #[.int .i64 0, .slice none 0 0, .slice none 0 0] 27)).alloc (.cells #[.slice none 0 0, .slice none 0 0] 30) := ⟨_, rfl⟩
  have kR0 : Blk w0 w.heap.size #[.int .i64 0, .slice none 0 0, .slice none 0 0] 27 := by rw [hw0]; exact (Blk.new _ rfl).past _
  have kS0 : Blk w0 (w.heap.size + 1) #[.slice none 0 0, .slice none 0 0] 30 := by rw [hw0]; exact Blk.new _ (by simp)
  have hb0 : Below w.heap.size w w0 := by rw [hw0]; exact ((Below.refl _ w).alloc (Nat.le_refl _) _).alloc (by simp) _
  have hs0 : w.heap.size + 2 ≤ w0.heap.size := by rw [hw0]; simp
  clear h
  go_enter Tryz.func5, Tryz.ntmps5
  go_wp2_with fail
  (try rw [← hw0])
  clear hw0
  refine (HDR.out _ (HB.out.by hb0)).mono ?_
  rintro e w1 ⟨v, u, x, z, rfl, HO, HS, HM, hzl, hb1⟩
  obtain ⟨s1, s2, rfl, r1, r2⟩ := id HO.out
  obtain ⟨a1, c1, rfl⟩ : ∃ a c, s1 = .slice a x.ds.length c := by obtain ⟨_, _, _, o⟩ := r1; exact o.sl.sized
  obtain ⟨a2, c2, rfl⟩ : ∃ a c, s2 = .slice a x.ps.length c := by obtain ⟨_, _, _, o⟩ := r2; exact o.sl.sized
  obtain ⟨t1, t2, rfl, i1, i2⟩ := id HM.out
  obtain ⟨e1, f1, rfl⟩ : ∃ a c, t1 = .slice a z.1.length c := by obtain ⟨_, _, _, o⟩ := i1; exact o.sl.len
  obtain ⟨e2, f2, rfl⟩ : ∃ a c, t2 = .slice a z.2.length c := by obtain ⟨_, _, _, o⟩ := i2; exact o.sl.len
  have kR1 := Blk.by hb1 kR0
  have kS1 := Blk.by hb1 kS0
  have hb2 := below_on hb1 hb0
  have HO5 := Lib.hid (NlO.nl (NlO.past (Within.off (g := w.heap.size + 1) (o := 1) (.slice e2 z.2.length f2)) (NlO.past (Within.off (g := w.heap.size + 1) (o := 0) (.slice e1 z.1.length f1)) (NlO.past (Within.off (g := w.heap.size) (o := 2) (.slice a2 x.ps.length c2)) (NlO.past (Within.off (g := w.heap.size) (o := 1) (.slice a1 x.ds.length c1)) (NlO.past (Within.off (g := w.heap.size) (o := 0) (.int .i64 x.nets)) HO.out (by omega)) (by omega)) (by omega)) (by omega)) (by omega)))
  have HM5 := Lib.hid (MaO.cov (MaO.past (Within.off (g := w.heap.size + 1) (o := 1) (.slice e2 z.2.length f2)) (MaO.past (Within.off (g := w.heap.size + 1) (o := 0) (.slice e1 z.1.length f1)) (MaO.past (Within.off (g := w.heap.size) (o := 2) (.slice a2 x.ps.length c2)) (MaO.past (Within.off (g := w.heap.size) (o := 1) (.slice a1 x.ds.length c1)) (MaO.past (Within.off (g := w.heap.size) (o := 0) (.int .i64 x.nets)) HM.out (by omega)) (by omega)) (by omega)) (by omega)) (by omega)))
  have hb5 : Below w.heap.size w (((((w1.setCell ⟨w.heap.size, 0, none⟩ (.int .i64 x.nets)).setCell ⟨w.heap.size, 1, none⟩ (.slice a1 x.ds.length c1)).setCell ⟨w.heap.size, 2, none⟩ (.slice a2 x.ps.length c2)).setCell ⟨w.heap.size + 1, 0, none⟩ (.slice e1 z.1.length f1)).setCell ⟨w.heap.size + 1, 1, none⟩ (.slice e2 z.2.length f2)) :=
    ((((hb2.setCell (Nat.le_refl _) _).setCell (Nat.le_refl _) _).setCell (Nat.le_refl _) _).setCell (show w.heap.size ≤ w.heap.size + 1 by omega) _).setCell (show w.heap.size ≤ w.heap.size + 1 by omega) _
  obtain ⟨N, hN⟩ : ∃ N, x.nets = N := ⟨_, rfl⟩
  obtain ⟨L, hL⟩ : ∃ L, x.ds.length = L := ⟨_, rfl⟩
  obtain ⟨L2, hL2⟩ : ∃ L, x.ps.length = L := ⟨_, rfl⟩
  obtain ⟨p, hp⟩ : ∃ p, z.1.length = p := ⟨_, rfl⟩
  obtain ⟨q, hq⟩ : ∃ q, z.2.length = q := ⟨_, rfl⟩
  rw [hN, hL, hL2, hp, hq] at HO5 HM5 hb5
  rw [hN, hL, hL2, hp, hq]
  have HZ := Lib.hid hzl
  have qR := kR1.cell
  have fR := kR1.free
  have lR := kR1.lt
  have qS := kS1.cell
  have fS := kS1.free
  have lS := kS1.lt
  clear HO HM r1 r2 i1 i2 hN hL hL2 hp hq kR0 kS0 kR1 kS1 hb0 hb1 hb2 hs0 hzl
  go_wp2
  exact bodyPost_ret (v := .tuple #[.agg #[.int .i64 N, .slice a1 L c1, .slice a2 L2 c2], .agg #[.slice e1 p f1, .slice e2 q f2]]) (by simp [results, Tryz.results5, go_sem, *]) rfl ⟨_, _, x, z, rfl, HO5, HS, HM5, HZ.out, hb5⟩
end Go.Proofs.YtpaiiaajbojmnaaGreat
