/- The reference's l29Initial. -/
import Derived.Test.YtpaiiaajbojmnaaGreatBldL
import Derived.Test.YtpaiiaajbojmnaaGreatSpecRk
import Derived.Test.YtpaiiaajbojmnaaGreatNls
import Derived.Test.YtpaiiaajbojmnaaGreatPairC
import Derived.BigRegion
import Derived.Test.YtpaiiaajbojmnaaGreatRankI
import Derived.Test.YtpaiiaajbojmnaaGreatNetBs
import Derived.Test.YtpaiiaajbojmnaaGreatBase
namespace Go.Proofs.YtpaiiaajbojmnaaGreat
open Go.RowKit
set_option linter.unusedVariables false
set_option linter.unusedSimpArgs false

theorem ownR_three {w : World} {g : Nat} {a b c : Int} (h : Blk w g #[.int .i64 a, .int .i64 b, .int .i64 c] 2) : OwnR w g (g + 1) (.slice (some ⟨g, 0, none⟩) 3 3) [a, b, c] :=
  .inr ⟨g, 3, _, rfl, Nat.le_refl _, Nat.lt_succ_self _, Nat.le_refl _, by unfold maxLen; omega, h, fun i x hx => by
    match i, hx with
    | 0, hx => simp at hx; subst hx; rfl
    | 1, hx => simp at hx; subst hx; rfl
    | 2, hx => simp at hx; subst hx; rfl
    | i + 3, hx => simp at hx⟩

set_option maxRecDepth 100000 in
set_option maxHeartbeats 2000000 in
theorem specIni_any (x : Nl) (v : Value) (m : Nat) (w : World) (h : NlV w v x) (hm : x.nets = m) (hm24 : m ≤ 24) (hl : x.ds.length ≤ 24) (hpl : x.ps.length ≤ 8) :
    Calls Tryz.prog 74 #[v] w fun e w' => ∃ v', e = .returned v' ∧ OwnPr w' w.heap.size w'.heap.size v' (iniS x) ∧ Below w.heap.size w w' := by
  obtain ⟨s1, s2, rfl, hd, hp⟩ := h
  obtain ⟨Y, hY⟩ : ∃ Y, iniS x = Y := ⟨_, rfl⟩
  rw [hY]
  have hY' : (rankS (netL x m), rankS (devL x.ds)) = Y := by rw [← hY]; unfold iniS; rw [hm, Int.toNat_natCast]
  have HY := Lib.hid hY'
  have HNS := Lib.hid (fun n => netL_step x n)
  have HNL := Lib.hid (fun n => length_netL x n)
  have HN0 := Lib.hid (show netL x 0 = [] from rfl)
  obtain ⟨nets, ds, ps⟩ := x
  dsimp only at hd hp hm hl hpl HY HNS
  subst hm
  have HD := Lib.hid hd
  have HP := Lib.hid hp
  have HPS := Lib.hid (fun net k p => portTo_step ps net k p)
  have HPL := Lib.hid (fun net k => portTo_len ps net k)
  have HDL := Lib.hid (length_devL ds)
  have HDT := Lib.hid (fun k d (h : ds[k]? = some d) => show (devL ds).take (k + 1) = (devL ds).take k ++ [[d.kind, d.wd, d.len]] from take_snoc_of (devL ds) k _ (by simp [devL, h]))
  have HR1 := Lib.hid (fun sv w h => specRanks_any (netL ⟨(m : Int), ds, ps⟩ m) sv w h (by rw [length_netL]; omega))
  have HR2 := Lib.hid (fun sv w h => specRanks_any (devL ds) sv w h (by rw [length_devL]; omega))
  generalize netL ⟨(m : Int), ds, ps⟩ = NL at *
  generalize devL ds = DL at *
  obtain ⟨a1, c1, rfl⟩ := hd.sized
  obtain ⟨a2, c2, rfl⟩ := hp.sized
  clear hd hp hY hY'
  go_enter Tryz.func74, Tryz.ntmps74
  go_wp2
  go_loopw [3, 4, 5, 6] (fun u i _ _ wr => ∃ (k hi : Nat), k ≤ m ∧ i = .int .i64 k ∧ Hid (BldL wr (w.heap.size + 1 + 1) hi u (NL k)) ∧ w.heap.size + 1 + 1 < hi ∧ Blk wr w.heap.size #[.int .i64 (m : Int), .slice a1 ds.length c1, .slice a2 ps.length c2] 27 ∧ Blk wr (w.heap.size + 1) #[.slice none 0 0, .slice none 0 0] 30 ∧ Below w.heap.size w wr) (fun _ i _ _ _ => m - (intOf i).toNat)
  case atStart =>
    refine ⟨0, w.heap.size + 1 + 1 + 1, Nat.zero_le _, rfl, Lib.hid ?_, by omega, (by ((repeat (first | (with_reducible assumption) | (with_reducible refine Blk.drewN ?_ _) | (with_reducible refine Blk.drew ?_) | ((with_reducible refine Blk.new _ ?_); focus (first | omega | (simp; done) | (simp; omega))) | (with_reducible refine Blk.past ?_ _) | ((with_reducible refine Blk.apart ?_ _ _ _ ?_); rotate_left; focus (first | omega | (simp; done) | (simp; omega))) | (with_reducible refine Blk.by (by assumption) ?_))); done)), (by ((repeat (first | (with_reducible assumption) | (with_reducible refine Blk.drewN ?_ _) | (with_reducible refine Blk.drew ?_) | ((with_reducible refine Blk.new _ ?_); focus (first | omega | (simp; done) | (simp; omega))) | (with_reducible refine Blk.past ?_ _) | ((with_reducible refine Blk.apart ?_ _ _ _ ?_); rotate_left; focus (first | omega | (simp; done) | (simp; omega))) | (with_reducible refine Blk.by (by assumption) ?_))); done)), (by ((repeat (first | (with_reducible exact Below.refl _ _) | (with_reducible refine below_drewN ?_ _) | (with_reducible refine Below.drew ?_) | (with_reducible refine below_al ?_ _) | (with_reducible refine below_on (by assumption) ?_) | ((with_reducible refine Below.setCell ?_ ?_ _); rotate_left; focus (first | omega | (simp; done) | (simp; omega))) | (with_reducible assumption))); done))⟩
    rw [HN0.out]
    exact BldL.lit (Blk.new _ (by simp)) (Nat.le_refl _) (by omega) (by simp)
  case round =>
    obtain ⟨k, hi, hk, rfl, HB, hhi, kA, kR, hb⟩ := hrel
    obtain ⟨av, cv, rfl⟩ := HB.out.sized
    rw [HNL.out k] at HB ⊢
    have hhs := HB.out.1
    have qA := kA.cell
    by_cases hlt : k < m
    · obtain ⟨wo, hwo⟩ : ∃ y : World, y = wr := ⟨_, rfl⟩
      subst hwo
      go_wp2
      go_loopw [5, 6] (fun l i wr2 => ∃ (j h2 : Nat), j ≤ ps.length ∧ i = .int .i64 j ∧ Hid (BldI wr2 wo.heap.size h2 l (portTo ps (k : Int) j)) ∧ wo.heap.size < h2 ∧ Below wo.heap.size wo wr2) (fun _ i _ => ps.length - (intOf i).toNat)
      case atStart =>
        refine ⟨0, wo.heap.size + 1, Nat.zero_le _, rfl, Lib.hid ?_, by omega, (by ((repeat (first | (with_reducible exact Below.refl _ _) | (with_reducible refine below_drewN ?_ _) | (with_reducible refine Below.drew ?_) | (with_reducible refine below_al ?_ _) | (with_reducible refine below_on (by assumption) ?_) | ((with_reducible refine Below.setCell ?_ ?_ _); rotate_left; focus (first | omega | (simp; done) | (simp; omega))) | (with_reducible assumption))); done))⟩
        have hB : Blk (wo.alloc (.cells #[] 2)) wo.heap.size #[] 2 := Blk.new _ rfl
        exact BldI.lit (zs := []) hB rfl (by simp) (Nat.le_refl _) (by omega) (by simp)
      case round =>
        obtain ⟨j, h2, hj, rfl, HI, hh2, hb2⟩ := hrel
        obtain ⟨al, cl, rfl⟩ := HI.out.sized
        have hIs := HI.out.1
        have hb2s := hb2.size
        have kA2 := Blk.by hb2 kA
        have qA2 := kA2.cell
        have hbw := below_on hb2 hb
        clear qA
        by_cases hlj : j < ps.length
        · obtain ⟨p, hp⟩ : ∃ p, ps[j]? = some p := ⟨ps[j], List.getElem?_eq_getElem hlj⟩
          rcases HP.out with ⟨_, _, _, e2⟩ | ⟨pb, po, pc, he, _, _, h4⟩
          · rw [e2] at hp; simp at hp
          obtain ⟨rfl, rfl⟩ : a2 = some ⟨pb, po, none⟩ ∧ c2 = pc := by simpa using he
          obtain ⟨p1, p2⟩ := (h4 j p hp).by hbw
          have hst := HPS.out (k : Int) j p hp
          have hlen := HPL.out (k : Int) j
          obtain ⟨pn, hpn⟩ : ∃ z, p.net = z := ⟨_, rfl⟩
          rw [hpn] at p2 hst
          have HST := Lib.hid hst
          have j1 : (0 : Int) ≤ (j : Int) := by omega
          have j2 : (j : Int) < (ps.length : Int) := by omega
          clear hp h4 he hst hpn p1
          by_cases hq : pn = (k : Int)
          · subst hq
            have e3 : ((k : Int) == (k : Int)) = true := by simp
            go_wp2_with (refine list_pushI (by rfl) _ _ (by rfl) wo.heap.size h2 _ _ [(j : Int)] (by rfl) (HI.out.by (by ((repeat (first | (with_reducible exact Below.refl _ _) | (with_reducible refine below_drewN ?_ _) | (with_reducible refine Below.drew ?_) | (with_reducible refine below_al ?_ _) | (with_reducible refine below_on (by assumption) ?_) | ((with_reducible refine Below.setCell ?_ ?_ _); rotate_left; focus (first | omega | (simp; done) | (simp; omega))) | (with_reducible assumption))); done))) wr.heap.size 1 #[.int .i64 (j : Int)] (by rfl) (by rfl) (by omega) (Blk.new _ rfl) (by rfl) (by omega) (by omega) ?_; intro a5 c5 w5 hB5 hw5; have HB5 := Lib.hid hB5; clear hB5)
            have hsz := hw5.size
            simp only [World.size_alloc] at hsz
            refine ⟨⟨j + 1, w5.heap.size, by omega, by go_num, Lib.hid ?_, by omega, hw5.below (below_al hb2 _) (by omega)⟩, by simp [intOf]; omega⟩
            rw [HST.out]
            simpa using HB5.out
          · have e3 : (pn == (k : Int)) = false := by simpa using hq
            have HE := Lib.hid (show portTo ps (k : Int) (j + 1) = portTo ps (k : Int) j by rw [HST.out]; simp [hq])
            clear hq
            go_wp2
            refine ⟨⟨j + 1, h2, by omega, by go_num, Lib.hid ?_, by omega, hb2⟩, by simp [intOf]; omega⟩
            rw [HE.out]
            exact HI.out
        · obtain rfl : j = ps.length := by omega
          have HOL := Lib.hid HI.out.own
          obtain ⟨fb, hfb, hOR⟩ := HI.out.own.pick hh2
          have HOR := Lib.hid hOR
          have HBB := Lib.hid (HB.out.by hb2)
          have hnk := HNL.out k
          have HNK := Lib.hid hnk
          have HSX := Lib.hid (HNS.out k)
          have kR2 := Blk.by hb2 kR
          clear hOR hnk HI
          go_wp2_with (refine list_pushL (by rfl) _ _ (by rfl) (w.heap.size + 1 + 1) hi (.slice av k cv) (NL k) (by rfl) (HBB.out.by (by ((repeat (first | (with_reducible exact Below.refl _ _) | (with_reducible refine below_drewN ?_ _) | (with_reducible refine Below.drew ?_) | (with_reducible refine below_al ?_ _) | (with_reducible refine below_on (by assumption) ?_) | ((with_reducible refine Below.setCell ?_ ?_ _); rotate_left; focus (first | omega | (simp; done) | (simp; omega))) | (with_reducible assumption))); done))) wr.heap.size (portTo ps (k : Int) ps.length) _ fb (by rfl) (Blk.new _ rfl) (OwnR.by ((Below.refl _ wr).alloc (Nat.le_refl _) _) HOR.out) (by omega) (by omega) (by simp; omega) (by rw [HNK.out]; omega) ?_; intro a5 c5 w5 hB5 hw5; have HB5 := Lib.hid hB5; rw [HNK.out]; clear hB5)
          have hsz := hw5.size
          simp only [World.size_alloc] at hsz
          refine ⟨⟨k + 1, w5.heap.size, by omega, by go_num, Lib.hid ?_, by omega, hw5.blk (kA2.past _) (by omega), hw5.blk (kR2.past _) (by omega), hw5.below (below_al hbw _) (by omega)⟩, by simp [intOf]; omega⟩
          rw [HSX.out]
          have := HB5.out
          rw [HNK.out] at this
          exact this
    · obtain rfl : k = m := by omega
      have HLL1 := Lib.hid HB.out.ll.1
      obtain ⟨wo, hwo⟩ : ∃ y : World, y = wr := ⟨_, rfl⟩
      subst hwo
      clear HB
      go_wp2
      go_loopw [7, 8] (fun u i wr2 => ∃ (j h2 : Nat), j ≤ ds.length ∧ i = .int .i64 j ∧ Hid (BldL wr2 wo.heap.size h2 u (DL.take j)) ∧ wo.heap.size < h2 ∧ Below wo.heap.size wo wr2) (fun _ i _ => ds.length - (intOf i).toNat)
      case atStart =>
        refine ⟨0, wo.heap.size + 1, Nat.zero_le _, rfl, Lib.hid ?_, by omega, (by ((repeat (first | (with_reducible exact Below.refl _ _) | (with_reducible refine below_drewN ?_ _) | (with_reducible refine Below.drew ?_) | (with_reducible refine below_al ?_ _) | (with_reducible refine below_on (by assumption) ?_) | ((with_reducible refine Below.setCell ?_ ?_ _); rotate_left; focus (first | omega | (simp; done) | (simp; omega))) | (with_reducible assumption))); done))⟩
        rw [List.take_zero]
        exact BldL.lit (Blk.new _ rfl) (Nat.le_refl _) (by omega) (by simp)
      case round =>
        obtain ⟨j, h2, hj, rfl, HBd, hh2, hb2⟩ := hrel
        obtain ⟨ad, cd, rfl⟩ := HBd.out.sized
        have hml : (DL.take j).length = j := by rw [List.length_take, HDL.out]; omega
        rw [hml] at HBd ⊢
        have HML := Lib.hid hml
        have hIs := HBd.out.1
        have hb2s := hb2.size
        have kA2 := Blk.by hb2 kA
        have kR2 := Blk.by hb2 kR
        have qA2 := kA2.cell
        have lA2 := kA2.lt
        have hbw := below_on hb2 hb
        clear qA hml
        by_cases hlj : j < ds.length
        · obtain ⟨d, hd⟩ : ∃ d, ds[j]? = some d := ⟨ds[j], List.getElem?_eq_getElem hlj⟩
          rcases HD.out with ⟨_, _, _, e2⟩ | ⟨db, do_, dc, he, _, _, h4⟩
          · rw [e2] at hd; simp at hd
          obtain ⟨rfl, rfl⟩ : a1 = some ⟨db, do_, none⟩ ∧ c1 = dc := by simpa using he
          obtain ⟨sp, d1, d2, d3, d4, hS⟩ := (h4 j d hd).by hbw
          obtain ⟨ap, cp, rfl⟩ := hS.len
          have HDX := Lib.hid (HDT.out j d hd)
          have j1 : (0 : Int) ≤ (j : Int) := by omega
          have j2 : (j : Int) < (ds.length : Int) := by omega
          clear hd h4 he hS
          go_wp2_with (refine list_pushL (by rfl) _ _ (by rfl) wo.heap.size h2 (.slice ad j cd) (DL.take j) (by rfl) (HBd.out.by (by ((repeat (first | (with_reducible exact Below.refl _ _) | (with_reducible refine below_drewN ?_ _) | (with_reducible refine Below.drew ?_) | (with_reducible refine below_al ?_ _) | (with_reducible refine below_on (by assumption) ?_) | ((with_reducible refine Below.setCell ?_ ?_ _); rotate_left; focus (first | omega | (simp; done) | (simp; omega))) | (with_reducible assumption))); done))) (wr.heap.size + 1 + 1) [d.kind, d.wd, d.len] _ (wr.heap.size + 1) (by rfl) (Blk.new _ (by simp)) (ownR_three ((Blk.new _ (by simp)).past _)) (by omega) (by omega) (by simp) (by rw [HML.out]; omega) ?_; intro a5 c5 w5 hB5 hw5; have HB5 := Lib.hid hB5; rw [HML.out]; clear hB5)
          have hsz := hw5.size
          simp only [World.size_alloc] at hsz
          refine ⟨⟨j + 1, w5.heap.size, by omega, by go_num, Lib.hid ?_, by omega, hw5.below (below_al (below_al (below_al hb2 _) _) _) (by omega)⟩, by simp [intOf]; omega⟩
          rw [HDX.out]
          have := HB5.out
          rw [HML.out] at this
          exact this
        · obtain rfl : j = ds.length := by omega
          have hLL2 := HBd.out.ll.1
          rw [List.take_of_length_le (by rw [HDL.out]; exact Nat.le_refl _)] at hLL2
          have HLL2 := Lib.hid hLL2
          have hos := kR.lt
          clear hLL2 HBd
          go_wp2_with fail
          refine (HR1.out _ _ (HLL1.out.by hb2)).mono ?_
          rintro e w6 ⟨v6, rfl, hO6, hb6⟩
          have HO6 := Lib.hid hO6
          obtain ⟨a6, c6, rfl⟩ := hO6.sl.len
          rw [length_rankS] at HO6 ⊢
          have hs6 := hb6.size
          clear hO6
          go_wp2_with fail
          refine (HR2.out _ _ (HLL2.out.by hb6)).mono ?_
          rintro e w7 ⟨v7, rfl, hO7, hb7⟩
          have HO7 := Lib.hid hO7
          obtain ⟨a7, c7, rfl⟩ := hO7.sl.len
          rw [length_rankS] at HO7 ⊢
          have hs7 := hb7.size
          have kR7 := Blk.by hb7 (Blk.by hb6 kR2)
          have qR := kR7.cell
          have fR := kR7.free
          have lR := kR7.lt
          have hbw7 := below_on hb7 (below_on hb6 hbw)
          clear hO7 qA2
          go_wp2
          refine bodyPost_ret (v := .agg #[.slice a6 (NL k).length c6, .slice a7 DL.length c7]) (by simp [results, Tryz.results74, go_sem, *]) rfl ⟨_, rfl, ?_, (by ((repeat (first | (with_reducible exact Below.refl _ _) | (with_reducible refine below_drewN ?_ _) | (with_reducible refine Below.drew ?_) | (with_reducible refine below_al ?_ _) | (with_reducible refine below_on (by assumption) ?_) | ((with_reducible refine Below.setCell ?_ ?_ _); rotate_left; focus (first | omega | (simp; done) | (simp; omega))) | (with_reducible assumption))); done))⟩
          have hy := HY.out
          rw [← hy]
          refine ⟨_, _, wr.heap.size, w6.heap.size, w6.heap.size, w7.heap.size, rfl, ?_, ?_, ⟨by omega, by simp; omega⟩, ⟨by omega, by simp; try omega⟩, .inl (Nat.le_refl _)⟩
          · exact OwnR.past (Within.off _) (OwnR.past (Within.off _) (OwnR.by hb7 HO6.out) (by omega)) (by omega)
          · exact OwnR.past (Within.off _) (OwnR.past (Within.off _) HO7.out (by omega)) (by omega)
end Go.Proofs.YtpaiiaajbojmnaaGreat

/- The program's initialColoring. -/
namespace Go.Proofs.YtpaiiaajbojmnaaGreat
open Go.RowKit
set_option linter.unusedVariables false
set_option linter.unusedSimpArgs false

set_option maxRecDepth 100000 in
set_option maxHeartbeats 2000000 in
theorem implIni_any (x : Nl) (v : Value) (m : Nat) (w : World) (h : NlV w v x) (hm : x.nets = m) (hm24 : m ≤ 24) (hl : x.ds.length ≤ 24) (hpl : x.ps.length ≤ 8) (hpn : ∀ p ∈ x.ps, 0 ≤ p.net ∧ p.net < x.nets) :
    Calls Tryz.prog 38 #[v] w fun e w' => ∃ v', e = .returned v' ∧ OwnPr w' w.heap.size w'.heap.size v' (iniS x) ∧ Below w.heap.size w w' := by
  obtain ⟨s1, s2, rfl, hd, hp⟩ := h
  obtain ⟨Y, hY⟩ : ∃ Y, iniS x = Y := ⟨_, rfl⟩
  rw [hY]
  have hY' : (rankS ((List.range m).map fun j : Nat => portTo x.ps (j : Int) x.ps.length), rankS (devL x.ds)) = Y := by rw [← hY]; unfold iniS netL; rw [hm, Int.toNat_natCast]
  have HY := Lib.hid hY'
  obtain ⟨nets, ds, ps⟩ := x
  dsimp only at hd hp hm hl hpl HY hpn
  subst hm
  have HD := Lib.hid hd
  have HP := Lib.hid hp
  have HPN := Lib.hid hpn
  have HPS := Lib.hid (fun net k p => portTo_step ps net k p)
  have HPL := Lib.hid (fun net k => portTo_len ps net k)
  have HP0 := Lib.hid (fun net => show portTo ps net 0 = [] from rfl)
  have HDL := Lib.hid (length_devL ds)
  have HDT := Lib.hid (fun k d (h : ds[k]? = some d) => show (devL ds).take (k + 1) = (devL ds).take k ++ [[d.kind, d.wd, d.len]] from take_snoc_of (devL ds) k _ (by simp [devL, h]))
  have HR1 := Lib.hid (fun sv w h hf => implRanks_any ((List.range m).map fun j : Nat => portTo ps (j : Int) ps.length) sv w h hf (by simp; omega))
  have HR2 := Lib.hid (fun sv w h hf => implRanks_any (devL ds) sv w h hf (by rw [length_devL]; omega))
  generalize devL ds = DL at *
  obtain ⟨a1, c1, rfl⟩ := hd.sized
  obtain ⟨a2, c2, rfl⟩ := hp.sized
  obtain ⟨N, hN⟩ : ∃ N, w.heap.size + 1 + 1 = N := ⟨_, rfl⟩
  obtain ⟨cs0, hcs0, hcz, hmk⟩ := make_lists m (by omega) ((w.alloc (.cells #[.int .i64 (m : Int), .slice a1 ds.length c1, .slice a2 ps.length c2] 27)).alloc (.cells #[.slice none 0 0, .slice none 0 0] 30))
  simp only [World.size_alloc] at hmk
  have HN := Lib.hid hN
  clear hd hp hY hY' hpn hN
  go_enter Tryz.func38, Tryz.ntmps38
  go_wp2
  clear hmk
  rw [HN.out]
  obtain ⟨wI, hwI⟩ : ∃ wI, wI = (((w.alloc (.cells #[.int .i64 (m : Int), .slice a1 ds.length c1, .slice a2 ps.length c2] 27)).alloc (.cells #[.slice none 0 0, .slice none 0 0] 30)).alloc (.cells cs0 28)).alloc (.cells #[] 28) := ⟨_, rfl⟩
  have kA : Blk wI w.heap.size #[.int .i64 (m : Int), .slice a1 ds.length c1, .slice a2 ps.length c2] 27 := by rw [hwI]; exact (by ((repeat (first | (with_reducible assumption) | (with_reducible refine Blk.drewN ?_ _) | (with_reducible refine Blk.drew ?_) | ((with_reducible refine Blk.new _ ?_); focus (first | omega | (simp; done) | (simp; omega))) | (with_reducible refine Blk.past ?_ _) | ((with_reducible refine Blk.apart ?_ _ _ _ ?_); rotate_left; focus (first | omega | (simp; done) | (simp; omega))) | (with_reducible refine Blk.by (by assumption) ?_))); done))
  have kR : Blk wI (w.heap.size + 1) #[.slice none 0 0, .slice none 0 0] 30 := by rw [hwI]; exact (by ((repeat (first | (with_reducible assumption) | (with_reducible refine Blk.drewN ?_ _) | (with_reducible refine Blk.drew ?_) | ((with_reducible refine Blk.new _ ?_); focus (first | omega | (simp; done) | (simp; omega))) | (with_reducible refine Blk.past ?_ _) | ((with_reducible refine Blk.apart ?_ _ _ _ ?_); rotate_left; focus (first | omega | (simp; done) | (simp; omega))) | (with_reducible refine Blk.by (by assumption) ?_))); done))
  have kN : Blk wI N cs0 28 := by rw [hwI, ← HN.out]; exact (by ((repeat (first | (with_reducible assumption) | (with_reducible refine Blk.drewN ?_ _) | (with_reducible refine Blk.drew ?_) | ((with_reducible refine Blk.new _ ?_); focus (first | omega | (simp; done) | (simp; omega))) | (with_reducible refine Blk.past ?_ _) | ((with_reducible refine Blk.apart ?_ _ _ _ ?_); rotate_left; focus (first | omega | (simp; done) | (simp; omega))) | (with_reducible refine Blk.by (by assumption) ?_))); done))
  have kE : Blk wI (N + 1) #[] 28 := by rw [hwI, ← HN.out]; exact (by ((repeat (first | (with_reducible assumption) | (with_reducible refine Blk.drewN ?_ _) | (with_reducible refine Blk.drew ?_) | ((with_reducible refine Blk.new _ ?_); focus (first | omega | (simp; done) | (simp; omega))) | (with_reducible refine Blk.past ?_ _) | ((with_reducible refine Blk.apart ?_ _ _ _ ?_); rotate_left; focus (first | omega | (simp; done) | (simp; omega))) | (with_reducible refine Blk.by (by assumption) ?_))); done))
  have hbI : Below w.heap.size w wI := by rw [hwI]; exact (by ((repeat (first | (with_reducible exact Below.refl _ _) | (with_reducible refine below_drewN ?_ _) | (with_reducible refine Below.drew ?_) | (with_reducible refine below_al ?_ _) | (with_reducible refine below_on (by assumption) ?_) | ((with_reducible refine Below.setCell ?_ ?_ _); rotate_left; focus (first | omega | (simp; done) | (simp; omega))) | (with_reducible assumption))); done))
  have hsI : wI.heap.size = N + 2 := by rw [hwI, ← HN.out]; simp
  have hNI : NetsI wI N (N + 2) m (fun j : Nat => portTo ps (j : Int) 0) := by
    refine ⟨cs0, fun _ => .slice none 0 0, kN, hcs0, fun j hj => ⟨hcz j hj, ?_⟩, fun i j hi hj hij g hg => by cases hg⟩
    show BldI wI (N + 2) wI.heap.size (.slice none 0 0) (portTo ps (j : Int) 0)
    rw [HP0.out]
    exact BldI.nil wI (N + 2)
  have HNI := Lib.hid hNI
  have hNw : w.heap.size + 1 < N := by have := HN.out; omega
  rw [← hwI]
  clear hwI kN hcz hcs0 hsI hNI
  go_loopw [16] (fun i wr => ∃ k : Nat, k ≤ ps.length ∧ i = .int .i64 k ∧ Hid (NetsI wr N (N + 2) m (fun j : Nat => portTo ps (j : Int) k)) ∧ Blk wr w.heap.size #[.int .i64 (m : Int), .slice a1 ds.length c1, .slice a2 ps.length c2] 27 ∧ Blk wr (w.heap.size + 1) #[.slice none 0 0, .slice none 0 0] 30 ∧ Blk wr (N + 1) #[] 28 ∧ Below w.heap.size w wr) (fun i _ => ps.length - (intOf i).toNat)
  case atStart => exact ⟨0, Nat.zero_le _, rfl, HNI, kA, kR, kE, hbI⟩
  case round =>
    clear HNI kA kR kE hbI
    obtain ⟨k, hk, rfl, HNI, kA, kR, kE, hb⟩ := hrel
    have qA := kA.cell
    have lA := kA.lt
    have lE := kE.lt
    by_cases hlt : k < ps.length
    · obtain ⟨p, hp⟩ : ∃ p, ps[k]? = some p := ⟨ps[k], List.getElem?_eq_getElem hlt⟩
      obtain ⟨hp0, hp1⟩ := HPN.out p (List.mem_of_getElem? hp)
      rcases HP.out with ⟨_, _, _, e2⟩ | ⟨pb, po, pc, he, _, _, h4⟩
      · rw [e2] at hp; simp at hp
      obtain ⟨rfl, rfl⟩ : a2 = some ⟨pb, po, none⟩ ∧ c2 = pc := by simpa using he
      obtain ⟨p1, p2⟩ := (h4 k p hp).by hb
      have hst := fun net => HPS.out net k p hp
      obtain ⟨name, net⟩ := p
      dsimp only at p1 p2 hst hp0 hp1
      obtain ⟨pn, rfl⟩ : ∃ n : Nat, net = n := ⟨net.toNat, by omega⟩
      have hpm : pn < m := by omega
      obtain ⟨cs, vs, n1, n2, n3, n4⟩ := HNI.out
      obtain ⟨n5, n6⟩ := n3 pn hpm
      obtain ⟨av, cv, hvs⟩ := n6.sized
      have hlen := HPL.out (pn : Int) k
      have HST := Lib.hid hst
      have HN1 := Lib.hid n1
      have HN2 := Lib.hid n2
      have HN3 := Lib.hid n3
      have HN4 := Lib.hid n4
      have HN6 := Lib.hid n6
      have cN : wr.cell? ⟨N, pn, none⟩ = some (vs pn) := (n1.cell _).trans n5
      have lN := n1.lt
      have i1 : (0 : Int) ≤ (k : Int) := by omega
      have i2 : (k : Int) < (ps.length : Int) := by omega
      have i3 : (0 : Int) ≤ (pn : Int) := by omega
      have i4 : (pn : Int) < (m : Int) := by omega
      have hvo : (vs pn).ownBlock ≠ some N := fun e => by have := n6.2.2 N e; omega
      have hvl : ∀ g, (vs pn).ownBlock = some g → N + 2 ≤ g ∧ g < wr.heap.size := fun g e => n6.2.2 g e
      have HVL := Lib.hid hvl
      clear hp h4 he hst n1 n2 n3 n4 n5 n6 hvl hp0 hp1
      rw [hvs] at cN HN6
      have HVS := Lib.hid hvs
      obtain ⟨wo, hwo⟩ : ∃ y : World, y = wr := ⟨_, rfl⟩
      subst hwo
      clear hvs
      go_upto_region 5 with fail
      obtain ⟨D, hD⟩ : ∃ D, wo.heap.size = D := ⟨_, rfl⟩
      obtain ⟨wA, hwA⟩ : ∃ wA, wA = wo.alloc (.cells #[.string name, .int .i64 (pn : Int)] 65) := ⟨_, rfl⟩
      have hal : Below wo.heap.size wo wA := by rw [hwA]; exact (Below.refl _ wo).alloc (Nat.le_refl _) _
      have kD : Blk wA D #[.string name, .int .i64 (pn : Int)] 65 := by rw [hwA]; exact Blk.new _ hD.symm
      have hsA : wA.heap.size = D + 1 := by rw [hwA]; simp [hD]
      rw [← hwA]
      (try rw [hD])
      have cD1 : wA.cell? ⟨D, 1, none⟩ = some (.int .i64 (pn : Int)) := kD.cell 1
      have cNA : wA.cell? ⟨N, pn, none⟩ = some (.slice av (portTo ps (pn : Int) k).length cv) := cell_by' hal cN
      have HAL := Lib.hid hal
      have HDD := Lib.hid hD
      have HSA := Lib.hid hsA
      clear hwA cN qA hal hD hsA p1 p2
      refine wp_region_any (by kernel_rfl) (wpAny_of_E (S := fun w' => w'.cell? ⟨D, 1, none⟩ = some (.int .i64 (pn : Int)) ∧ w'.cell? ⟨N, pn, none⟩ = some (.slice av (portTo ps (pn : Int) k).length cv)) (l := 12) _ _ _ _ ?_)
      have hS : (fun w' : World => w'.cell? ⟨D, 1, none⟩ = some (.int .i64 (pn : Int)) ∧ w'.cell? ⟨N, pn, none⟩ = some (.slice av (portTo ps (pn : Int) k).length cv)) { wA with drawn := wA.drawn + 1 } := ⟨cD1, cNA⟩
      change wpAnyE _ _ _ _ _ _ _ _ _ wA.drew
      refine wpAnyE_take (i := 0) (v := ?_) rfl (by kernel_rfl) (fun _ _ _ h => h) (Or.inl ⟨by rfl, ?_⟩) hS ?_
      rotate_left
      · intro w hSw; (try dsimp only at hSw); go_simp; (try with_reducible rfl)
      try simp only [Act.put, List.setIfInBounds_toArray, List.set_cons_zero, List.set_cons_succ]
      refine wpAnyE_take (i := 1) (v := ?_) rfl (by kernel_rfl) (fun _ _ _ h => h) (Or.inl ⟨by rfl, ?_⟩) hS ?_
      rotate_left
      · intro w hSw; (try dsimp only at hSw); go_simp; (try with_reducible rfl)
      try simp only [Act.put, List.setIfInBounds_toArray, List.set_cons_zero, List.set_cons_succ]
      refine wpAnyE_take (i := 2) (v := ?_) rfl (by kernel_rfl) (fun _ _ _ h => h) (Or.inl ⟨by rfl, ?_⟩) hS ?_
      rotate_left
      · intro w hSw; (try dsimp only at hSw); go_simp; (try with_reducible rfl)
      try simp only [Act.put, List.setIfInBounds_toArray, List.set_cons_zero, List.set_cons_succ]
      refine wpAnyE_take (i := 3) (v := ?_) rfl (by kernel_rfl) (fun _ _ _ h => h) (Or.inl ⟨by rfl, ?_⟩) hS ?_
      rotate_left
      · intro w hSw; (try dsimp only at hSw); go_simp; (try with_reducible rfl)
      try simp only [Act.put, List.setIfInBounds_toArray, List.set_cons_zero, List.set_cons_succ]
      refine wpAnyE_take (i := 4) (v := ?_) rfl (by kernel_rfl) (fun _ _ _ h => h) (Or.inl ⟨by rfl, ?_⟩) hS ?_
      rotate_left
      · intro w hSw; (try dsimp only at hSw); go_simp; (try with_reducible rfl)
      try simp only [Act.put, List.setIfInBounds_toArray, List.set_cons_zero, List.set_cons_succ]
      refine wpAnyE_take (i := 5) (v := ?_) rfl (by kernel_rfl) (fun _ _ _ h => h) (Or.inl ⟨by rfl, ?_⟩) hS ?_
      rotate_left
      · intro w hSw; (try dsimp only at hSw); go_simp; (try with_reducible rfl)
      try simp only [Act.put, List.setIfInBounds_toArray, List.set_cons_zero, List.set_cons_succ]
      refine wpAnyE_take (i := 6) (v := ?_) rfl (by kernel_rfl) (fun _ _ _ h => h) (Or.inl ⟨by rfl, ?_⟩) hS ?_
      rotate_left
      · intro w hSw; (try dsimp only at hSw); go_simp; (try with_reducible rfl)
      try simp only [Act.put, List.setIfInBounds_toArray, List.set_cons_zero, List.set_cons_succ]
      refine wpAnyE_take (i := 7) (v := ?_) rfl (by kernel_rfl) (fun _ _ _ h => h) (Or.inl ⟨by rfl, ?_⟩) hS ?_
      rotate_left
      · intro w hSw; (try dsimp only at hSw); go_simp; (try with_reducible rfl)
      try simp only [Act.put, List.setIfInBounds_toArray, List.set_cons_zero, List.set_cons_succ]
      refine wpAnyE_take (i := 8) (v := ?_) rfl (by kernel_rfl) (fun _ _ _ h => h) (Or.inl ⟨by rfl, ?_⟩) hS ?_
      rotate_left
      · intro w hSw; (try dsimp only at hSw); go_simp; (try with_reducible rfl)
      try simp only [Act.put, List.setIfInBounds_toArray, List.set_cons_zero, List.set_cons_succ]
      refine wpAnyE_one (k := 9) (by kernel_rfl) rfl (fun K hK => ?_)
      go_simp
      have hal2 : Below wA.heap.size wA (wA.drew.alloc (.cells #[.int .i64 (k : Int)] 2)) := (Below.refl _ wA).drew.alloc (Nat.le_refl _) _
      refine hK.out _ _ (fun _ => ⟨cell_by' hal2 cD1, cell_by' hal2 cNA⟩) ?_
      try simp only [Act.put, List.setIfInBounds_toArray, List.set_cons_zero, List.set_cons_succ]
      refine wpAnyE_one (k := 10) (by kernel_rfl) rfl (fun K hK => ?_)
      refine step_pushG (by rfl) _ _ (by rfl) (N + 2) wo.heap.size (.slice av (portTo ps (pn : Int) k).length cv) (portTo ps (pn : Int) k) [(k : Int)] (by rfl) ((HN6.out.by HAL.out).by hal2) wA.heap.size 1 #[.int .i64 (k : Int)] (by rfl) rfl (by omega) (Blk.new _ rfl) rfl (by omega) (by omega) ?_
      intro g5 c5 w5 hB5 hk5 ho5 hw5
      have hsz5 := hw5.size
      simp only [World.size_alloc, World.size_drew] at hsz5 hk5 ho5
      have HVS' := HVS.out
      have hvo' : (Value.slice av (portTo ps (pn : Int) k).length cv).ownBlock ≠ some N := by rw [← HVS']; exact hvo
      have hvl' : ∀ g, (Value.slice av (portTo ps (pn : Int) k).length cv).ownBlock = some g → N + 2 ≤ g ∧ g < wo.heap.size := by rw [← HVS']; exact HVL.out
      have hDn : (Value.slice av (portTo ps (pn : Int) k).length cv).ownBlock ≠ some D := fun e => by have := hvl' D e; have := HDD.out; omega
      have hsA := HSA.out
      have hDD := HDD.out
      have hold : ∀ q, q < wo.heap.size → (Value.slice av (portTo ps (pn : Int) k).length cv).ownBlock ≠ some q → w5.heap[q]? = wo.heap[q]? := fun q hq hne => (hk5 q (by omega) hne).trans ((hal2.block q (by omega)).trans (HAL.out.block q hq))
      have cN5 : w5.cell? ⟨N, pn, none⟩ = some (.slice av (portTo ps (pn : Int) k).length cv) := by
        have := cell_by' hal2 cNA
        rw [← this]
        simp only [World.cell?]
        rw [hk5 N (by omega) hvo']
        rfl
      have kD5 : Blk w5 D #[.string name, .int .i64 (pn : Int)] 65 := (hk5 D (by omega) hDn).trans (Blk.by hal2 kD)
      have cD5 : w5.cell? ⟨D, 1, none⟩ = some (.int .i64 (pn : Int)) := kD5.cell 1
      have kN5 : Blk w5 N _ 28 := (hold N (by omega) hvo').trans HN1.out
      have fN5 := kN5.free
      have lN5 := kN5.lt
      have hS5 : w5.cell? ⟨D, 1, none⟩ = some (.int .i64 (pn : Int)) ∧ w5.cell? ⟨N, pn, none⟩ = some (.slice av (portTo ps (pn : Int) k).length cv) := ⟨cD5, cN5⟩
      have hA5 : (Value.slice av (portTo ps (pn : Int) k).length cv).ownBlock ≠ some w.heap.size := fun e => by have := hvl' _ e; omega
      have hR5 : (Value.slice av (portTo ps (pn : Int) k).length cv).ownBlock ≠ some (w.heap.size + 1) := fun e => by have := hvl' _ e; omega
      have hE5 : (Value.slice av (portTo ps (pn : Int) k).length cv).ownBlock ≠ some (N + 1) := fun e => by have := hvl' _ e; omega
      have kA5 : Blk w5 w.heap.size _ 27 := (hold _ kA.lt hA5).trans kA
      have kR5 : Blk w5 (w.heap.size + 1) #[.slice none 0 0, .slice none 0 0] 30 := (hold _ kR.lt hR5).trans kR
      have kE5 : Blk w5 (N + 1) #[] 28 := (hold _ kE.lt hE5).trans kE
      have hW5 : Within (N + 2) wo.heap.size wo w5 := ⟨hw5.os.trans (hal2.os.trans HAL.out.os), hw5.tape.trans (hal2.tape.trans HAL.out.tape), hw5.output.trans (hal2.output.trans HAL.out.output), by omega, fun q hq hne => hold q hq (fun e => by have := hvl' q e; omega)⟩
      have hb5 := hW5.below hb (by omega)
      have HB5 := Lib.hid hB5
      have HK5 := Lib.hid hold
      have HO5 := Lib.hid ho5
      clear hB5 hk5 hold ho5 HVS'
      refine hK.out _ _ (fun _ => hS5) ?_
      try simp only [Act.put, List.setIfInBounds_toArray, List.set_cons_zero, List.set_cons_succ]
      refine wpAnyE_one (k := 11) (by kernel_rfl) rfl (fun K hK => ?_)
      go_simp
      refine hK.out _ _ (fun _ => hS5) ?_
      try simp only [Act.put, List.setIfInBounds_toArray, List.set_cons_zero, List.set_cons_succ]
      refine wpAnyE_one (k := 12) (by kernel_rfl) rfl (fun K hK => ?_)
      go_simp
      refine hK.out _ _ (fun h => absurd rfl h) ?_
      refine wpAnyE_done (by kernel_rfl) ?_ _
      clear hS hS5
      go_wp2_with fail
      have hstep : portTo ps (pn : Int) (k + 1) = portTo ps (pn : Int) k ++ [(k : Int)] := by rw [HST.out]; simp
      have hlen2 : (portTo ps (pn : Int) (k + 1)).length = (portTo ps (pn : Int) k).length + 1 := by rw [hstep]; simp
      refine ⟨⟨k + 1, by omega, by go_num, Lib.hid ?_, kA5.apart N pn _ (by omega), kR5.apart N pn _ (by omega), kE5.apart N pn _ (by omega), hb5.setCell (by simp; omega) _⟩, by simp [intOf]; omega⟩
      have hfin := NetsI.grow (lst := fun j : Nat => portTo ps (j : Int) k) (lst' := fun j : Nat => portTo ps (j : Int) (k + 1)) (g := g5) (cap := c5) HN1.out HN2.out HN3.out HN4.out hpm (by omega) (by
        (try dsimp only)
        rw [hlen2, hstep]
        exact HB5.out) (by rw [HVS.out]; exact HK5.out) (by rw [HVS.out]; exact HO5.out.imp id (fun e => by omega)) (by omega) (fun i hi => by
        (try dsimp only)
        rw [HST.out, if_neg (by omega), List.append_nil])
      (try dsimp only at hfin)
      rw [hlen2] at hfin
      exact hfin
    · obtain rfl : k = ps.length := by omega
      obtain ⟨wo, hwo⟩ : ∃ y : World, y = wr := ⟨_, rfl⟩
      subst hwo

      have hNI := HNI.out
      have HNO := Lib.hid hNI
      have hlo := kE.lt
      clear hNI HNI
      go_wp2
      go_loopw [4, 37] (fun u i wr2 => ∃ (j h2 : Nat), j ≤ ds.length ∧ i = .int .i64 j ∧ Hid (BldL wr2 (N + 1) h2 u (DL.take j)) ∧ N + 1 < h2 ∧ wo.heap.size ≤ wr2.heap.size ∧ (∀ g, u.ownBlock = some g → g = N + 1 ∨ wo.heap.size ≤ g) ∧ Off (N + 1) wo wr2 ∧ Below w.heap.size w wr2) (fun _ i _ => ds.length - (intOf i).toNat)
      case atStart =>
        refine ⟨0, N + 2, Nat.zero_le _, rfl, Lib.hid ?_, by omega, Nat.le_refl _, fun g0 e0 => .inl ?_, fun q hq hne => rfl, hb⟩
        · rw [List.take_zero]
          exact BldL.lit kE (Nat.le_refl _) (by omega) (by omega)
        · have e1 : N + 1 = g0 := by injection e0
          exact e1.symm
      case round =>
        obtain ⟨j, h2, hj, rfl, HBd, hh2, hsl, hOw, hOff, hbw⟩ := hrel
        obtain ⟨ad, cd, rfl⟩ := HBd.out.sized
        have hml : (DL.take j).length = j := by rw [List.length_take, HDL.out]; omega
        rw [hml] at HBd hOw ⊢
        have HML := Lib.hid hml
        have hIs := HBd.out.1
        have hAl := kA.lt
        have hRl := kR.lt
        have kA2 := hOff.blk kA (by omega)
        have kR2 := hOff.blk kR (by omega)
        have qA2 := kA2.cell
        have lA2 := kA2.lt
        clear qA hml
        by_cases hlj : j < ds.length
        · obtain ⟨d, hd⟩ : ∃ d, ds[j]? = some d := ⟨ds[j], List.getElem?_eq_getElem hlj⟩
          rcases HD.out with ⟨_, _, _, e2⟩ | ⟨db, do_, dc, he, _, _, h4⟩
          · rw [e2] at hd; simp at hd
          obtain ⟨rfl, rfl⟩ : a1 = some ⟨db, do_, none⟩ ∧ c1 = dc := by simpa using he
          obtain ⟨sp, d1, d2, d3, d4, hS⟩ := (h4 j d hd).by hbw
          obtain ⟨ap, cp, rfl⟩ := hS.len
          have HDX := Lib.hid (HDT.out j d hd)
          have j1 : (0 : Int) ≤ (j : Int) := by omega
          have j2 : (j : Int) < (ds.length : Int) := by omega
          clear hd h4 he hS
          go_wp2_with (refine list_pushLG (by rfl) _ _ (by rfl) (N + 1) h2 (.slice ad j cd) (DL.take j) (by rfl) (HBd.out.by (by ((repeat (first | (with_reducible exact Below.refl _ _) | (with_reducible refine below_drewN ?_ _) | (with_reducible refine Below.drew ?_) | (with_reducible refine below_al ?_ _) | (with_reducible refine below_on (by assumption) ?_) | ((with_reducible refine Below.setCell ?_ ?_ _); rotate_left; focus (first | omega | (simp; done) | (simp; omega))) | (with_reducible assumption))); done))) (wr.heap.size + 1 + 1) [d.kind, d.wd, d.len] _ (wr.heap.size + 1) (by rfl) (Blk.new _ (by simp)) (ownR_three ((Blk.new _ (by simp)).past _)) (by omega) (by omega) (by simp) (by rw [HML.out]; omega) ?_; intro a5 c5 w5 hB5 hk5 ho5 hw5; have HB5 := Lib.hid hB5; rw [HML.out]; clear hB5)
          have hsz := hw5.size
          simp only [World.size_alloc] at hsz hk5 ho5
          have hal3 : Below wr.heap.size wr (((wr.alloc (.cells #[.int .i64 d.kind, .slice ap d.pins.length cp, .int .i64 d.wd, .int .i64 d.len] 62)).alloc (.cells #[.int .i64 d.kind, .int .i64 d.wd, .int .i64 d.len] 2)).alloc (.cells #[.slice (some ⟨wr.heap.size + 1, 0, none⟩) 3 3] 28)) := (by ((repeat (first | (with_reducible exact Below.refl _ _) | (with_reducible refine below_drewN ?_ _) | (with_reducible refine Below.drew ?_) | (with_reducible refine below_al ?_ _) | (with_reducible refine below_on (by assumption) ?_) | ((with_reducible refine Below.setCell ?_ ?_ _); rotate_left; focus (first | omega | (simp; done) | (simp; omega))) | (with_reducible assumption))); done))
          refine ⟨⟨j + 1, w5.heap.size, by omega, by go_num, Lib.hid ?_, by omega, by omega, fun g0 e0 => ?_, fun q hq hne => ?_, hw5.below (below_on hal3 hbw) (by omega)⟩, by simp [intOf]; omega⟩
          rotate_left
          · have e1 : a5 = g0 := by injection e0
            subst e1
            rcases ho5 with h | h
            · exact hOw _ h
            · omega
          · refine (hk5 q (by omega) (fun e => by have := hOw q e; omega)).trans ((hal3.block q (by omega)).trans (hOff q hq hne))
          rw [HDX.out]
          have := HB5.out
          rw [HML.out] at this
          exact this
        · obtain rfl : j = ds.length := by omega
          have hLL2 := HBd.out.ll
          rw [List.take_of_length_le (by rw [HDL.out]; exact Nat.le_refl _)] at hLL2
          have HLL2 := Lib.hid hLL2
          have hNL := NetsI.off HNO.out hOff hsl
          have HNL2 := Lib.hid (hNL.ll (by omega))
          have hlsz := hNL
          clear hLL2 HBd hNL hlsz
          go_wp2_with fail
          refine (HR1.out _ _ HNL2.out (.inr ⟨_, _, _, rfl⟩)).mono ?_
          rintro e w6 ⟨v6, rfl, hO6, hb6⟩
          have HO6 := Lib.hid hO6
          obtain ⟨a6, c6, rfl⟩ := hO6.sl.len
          have hs6 := hb6.size
          clear hO6
          go_wp2_with fail
          refine (HR2.out _ _ (HLL2.out.1.by hb6) (HLL2.out.2.imp id (fun ⟨b, c, e⟩ => ⟨b, _, c, e⟩))).mono ?_
          rintro e w7 ⟨v7, rfl, hO7, hb7⟩
          have HO7 := Lib.hid hO7
          obtain ⟨a7, c7, rfl⟩ := hO7.sl.len
          have hs7 := hb7.size
          have kR7 := Blk.by hb7 (Blk.by hb6 kR2)
          have qR := kR7.cell
          have fR := kR7.free
          have lR := kR7.lt
          have hbw7 := below_on hb7 (below_on hb6 hbw)
          clear hO7 qA2
          generalize rankS ((List.range m).map fun j : Nat => portTo ps (j : Int) ps.length) = K1 at *
          generalize rankS DL = K2 at *
          go_wp2
          refine bodyPost_ret (v := .agg #[.slice a6 K1.length c6, .slice a7 K2.length c7]) (by simp [results, Tryz.results38, go_sem, *]) rfl ⟨_, rfl, ?_, (by ((repeat (first | (with_reducible exact Below.refl _ _) | (with_reducible refine below_drewN ?_ _) | (with_reducible refine Below.drew ?_) | (with_reducible refine below_al ?_ _) | (with_reducible refine below_on (by assumption) ?_) | ((with_reducible refine Below.setCell ?_ ?_ _); rotate_left; focus (first | omega | (simp; done) | (simp; omega))) | (with_reducible assumption))); done))⟩
          have hy := HY.out
          rw [← hy]
          refine ⟨_, _, wr.heap.size, w6.heap.size, w6.heap.size, w7.heap.size, rfl, ?_, ?_, ⟨by omega, by simp; omega⟩, ⟨by omega, by simp; try omega⟩, .inl (Nat.le_refl _)⟩
          · exact OwnR.past (Within.off _) (OwnR.past (Within.off _) (OwnR.by hb7 HO6.out) (by omega)) (by omega)
          · exact OwnR.past (Within.off _) (OwnR.past (Within.off _) HO7.out (by omega)) (by omega)
end Go.Proofs.YtpaiiaajbojmnaaGreat
