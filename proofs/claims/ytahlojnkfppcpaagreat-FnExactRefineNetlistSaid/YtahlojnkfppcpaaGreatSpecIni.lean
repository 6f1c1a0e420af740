/- The reference's l29Initial. -/
import Derived.Test.YtahlojnkfppcpaaGreatBldL
import Derived.Test.YtahlojnkfppcpaaGreatSpecRk
import Derived.Test.YtahlojnkfppcpaaGreatNls
import Derived.Test.YtahlojnkfppcpaaGreatPairOwnColoring
import Derived.BigRegion
namespace Go.Proofs.YtahlojnkfppcpaaGreat
open Go.RowKit
set_option linter.unusedVariables false
set_option linter.unusedSimpArgs false

theorem ownR_three {w : World} {g : Nat} {a b c : Int} (h : Blk w g #[.int .i64 a, .int .i64 b, .int .i64 c] 2) : OwnR w g (g + 1) (.slice (some ⟨g, 0, none⟩) 3 3) [a, b, c] :=
  .inr ⟨g, 3, _, rfl, Nat.le_refl _, Nat.lt_succ_self _, Nat.le_refl _, by unfold maxLen; omega, h, fun i x hx => by
    match i, hx with
    | 0, hx => simp at hx; subst hx; rfl
    | 1, hx => simp at hx; subst hx; rfl
    | 2, hx => simp at hx; subst hx; rfl
    | i + 3, hx => simp at hx⟩

set_option maxRecDepth 100000 in
set_option maxHeartbeats 2000000 in
theorem specIni_any (x : Nl) (v : Value) (m : Nat) (w : World) (h : NlV w v x) (hm : x.nets = m) (hm24 : m ≤ 24) (hl : x.ds.length ≤ 24) (hpl : x.ps.length ≤ 8) :
    Calls Tryz.prog 16 #[v] w fun e w' => ∃ v', e = .returned v' ∧ OwnPr w' w.heap.size w'.heap.size v' (iniS x) ∧ Below w.heap.size w w' := by
  obtain ⟨s1, s2, rfl, hd, hp⟩ := h
  obtain ⟨Y, hY⟩ : ∃ Y, iniS x = Y := ⟨_, rfl⟩
  rw [hY]
  have hY' : (rankS (netL x m), rankS (devL x.ds)) = Y := by rw [← hY]; unfold iniS; rw [hm, Int.toNat_natCast]
  have HY := Lib.hid hY'
  have HNS := Lib.hid (fun n => netL_step x n)
  have HNL := Lib.hid (fun n => length_netL x n)
  have HN0 := Lib.hid (show netL x 0 = [] from rfl)
  obtain ⟨nets, ds, ps⟩ := x
  dsimp only at hd hp hm hl hpl HY HNS
  subst hm
  have HD := Lib.hid hd
  have HP := Lib.hid hp
  have HPS := Lib.hid (fun net k p => portTo_step ps net k p)
  have HPL := Lib.hid (fun net k => portTo_len ps net k)
  have HDL := Lib.hid (length_devL ds)
  have HDT := Lib.hid (fun k d (h : ds[k]? = some d) => show (devL ds).take (k + 1) = (devL ds).take k ++ [[d.kind, d.wd, d.len]] from take_snoc_of (devL ds) k _ (by simp [devL, h]))
  have HR1 := Lib.hid (fun sv w h => specRanks_any (netL ⟨(m : Int), ds, ps⟩ m) sv w h (by rw [length_netL]; omega))
  have HR2 := Lib.hid (fun sv w h => specRanks_any (devL ds) sv w h (by rw [length_devL]; omega))
  generalize netL ⟨(m : Int), ds, ps⟩ = NL at *
  generalize devL ds = DL at *
  obtain ⟨a1, c1, rfl⟩ := hd.sized
  obtain ⟨a2, c2, rfl⟩ := hp.sized
  clear hd hp hY hY'
  go_enter Tryz.func16, Tryz.ntmps16
  go_wp2
  go_loopw [3, 4, 5, 6] (fun u i _ _ wr => ∃ (k hi : Nat), k ≤ m ∧ i = .int .i64 k ∧ Hid (BldL wr (w.heap.size + 1 + 1) hi u (NL k)) ∧ w.heap.size + 1 + 1 < hi ∧ Blk wr w.heap.size #[.int .i64 (m : Int), .slice a1 ds.length c1, .slice a2 ps.length c2] 35 ∧ Blk wr (w.heap.size + 1) #[.slice none 0 0, .slice none 0 0] 29 ∧ Below w.heap.size w wr) (fun _ i _ _ _ => m - (intOf i).toNat)
  case atStart =>
    refine ⟨0, w.heap.size + 1 + 1 + 1, Nat.zero_le _, rfl, Lib.hid ?_, by omega, (by ((repeat (first | (with_reducible assumption) | (with_reducible refine Blk.drewN ?_ _) | (with_reducible refine Blk.drew ?_) | ((with_reducible refine Blk.new _ ?_); focus (first | omega | (simp; done) | (simp; omega))) | (with_reducible refine Blk.past ?_ _) | ((with_reducible refine Blk.apart ?_ _ _ _ ?_); rotate_left; focus (first | omega | (simp; done) | (simp; omega))) | (with_reducible refine Blk.by (by assumption) ?_))); done)), (by ((repeat (first | (with_reducible assumption) | (with_reducible refine Blk.drewN ?_ _) | (with_reducible refine Blk.drew ?_) | ((with_reducible refine Blk.new _ ?_); focus (first | omega | (simp; done) | (simp; omega))) | (with_reducible refine Blk.past ?_ _) | ((with_reducible refine Blk.apart ?_ _ _ _ ?_); rotate_left; focus (first | omega | (simp; done) | (simp; omega))) | (with_reducible refine Blk.by (by assumption) ?_))); done)), (by ((repeat (first | (with_reducible exact Below.refl _ _) | (with_reducible refine below_drewN ?_ _) | (with_reducible refine Below.drew ?_) | (with_reducible refine below_al ?_ _) | (with_reducible refine below_on (by assumption) ?_) | ((with_reducible refine Below.setCell ?_ ?_ _); rotate_left; focus (first | omega | (simp; done) | (simp; omega))) | (with_reducible assumption))); done))⟩
    rw [HN0.out]
    exact BldL.lit (Blk.new _ (by simp)) (Nat.le_refl _) (by omega) (by simp)
  case round =>
    obtain ⟨k, hi, hk, rfl, HB, hhi, kA, kR, hb⟩ := hrel
    obtain ⟨av, cv, rfl⟩ := HB.out.sized
    rw [HNL.out k] at HB ⊢
    have hhs := HB.out.1
    have qA := kA.cell
    by_cases hlt : k < m
    · obtain ⟨wo, hwo⟩ : ∃ y : World, y = wr := ⟨_, rfl⟩
      subst hwo
      go_wp2
      go_loopw [5, 6] (fun l i wr2 => ∃ (j h2 : Nat), j ≤ ps.length ∧ i = .int .i64 j ∧ Hid (BldI wr2 wo.heap.size h2 l (portTo ps (k : Int) j)) ∧ wo.heap.size < h2 ∧ Below wo.heap.size wo wr2) (fun _ i _ => ps.length - (intOf i).toNat)
      case atStart =>
        refine ⟨0, wo.heap.size + 1, Nat.zero_le _, rfl, Lib.hid ?_, by omega, (by ((repeat (first | (with_reducible exact Below.refl _ _) | (with_reducible refine below_drewN ?_ _) | (with_reducible refine Below.drew ?_) | (with_reducible refine below_al ?_ _) | (with_reducible refine below_on (by assumption) ?_) | ((with_reducible refine Below.setCell ?_ ?_ _); rotate_left; focus (first | omega | (simp; done) | (simp; omega))) | (with_reducible assumption))); done))⟩
        have hB : Blk (wo.alloc (.cells #[] 2)) wo.heap.size #[] 2 := Blk.new _ rfl
        exact BldI.lit (zs := []) hB rfl (by simp) (Nat.le_refl _) (by omega) (by simp)
      case round =>
        obtain ⟨j, h2, hj, rfl, HI, hh2, hb2⟩ := hrel
        obtain ⟨al, cl, rfl⟩ := HI.out.sized
        have hIs := HI.out.1
        have hb2s := hb2.size
        have kA2 := Blk.by hb2 kA
        have qA2 := kA2.cell
        have hbw := below_on hb2 hb
        clear qA
        by_cases hlj : j < ps.length
        · obtain ⟨p, hp⟩ : ∃ p, ps[j]? = some p := ⟨ps[j], List.getElem?_eq_getElem hlj⟩
          rcases HP.out with ⟨_, _, _, e2⟩ | ⟨pb, po, pc, he, _, _, h4⟩
          · rw [e2] at hp; simp at hp
          obtain ⟨rfl, rfl⟩ : a2 = some ⟨pb, po, none⟩ ∧ c2 = pc := by simpa using he
          obtain ⟨p1, p2⟩ := (h4 j p hp).by hbw
          have hst := HPS.out (k : Int) j p hp
          have hlen := HPL.out (k : Int) j
          obtain ⟨pn, hpn⟩ : ∃ z, p.net = z := ⟨_, rfl⟩
          rw [hpn] at p2 hst
          have HST := Lib.hid hst
          have j1 : (0 : Int) ≤ (j : Int) := by omega
          have j2 : (j : Int) < (ps.length : Int) := by omega
          clear hp h4 he hst hpn p1
          by_cases hq : pn = (k : Int)
          · subst hq
            have e3 : ((k : Int) == (k : Int)) = true := by simp
            go_wp2_with (refine list_pushI (by rfl) _ _ (by rfl) wo.heap.size h2 _ _ [(j : Int)] (by rfl) (HI.out.by (by ((repeat (first | (with_reducible exact Below.refl _ _) | (with_reducible refine below_drewN ?_ _) | (with_reducible refine Below.drew ?_) | (with_reducible refine below_al ?_ _) | (with_reducible refine below_on (by assumption) ?_) | ((with_reducible refine Below.setCell ?_ ?_ _); rotate_left; focus (first | omega | (simp; done) | (simp; omega))) | (with_reducible assumption))); done))) wr.heap.size 1 #[.int .i64 (j : Int)] (by rfl) (by rfl) (by omega) (Blk.new _ rfl) (by rfl) (by omega) (by omega) ?_; intro a5 c5 w5 hB5 hw5; have HB5 := Lib.hid hB5; clear hB5)
            have hsz := hw5.size
            simp only [World.size_alloc] at hsz
            refine ⟨⟨j + 1, w5.heap.size, by omega, by go_num, Lib.hid ?_, by omega, hw5.below (below_al hb2 _) (by omega)⟩, by simp [intOf]; omega⟩
            rw [HST.out]
            simpa using HB5.out
          · have e3 : (pn == (k : Int)) = false := by simpa using hq
            have HE := Lib.hid (show portTo ps (k : Int) (j + 1) = portTo ps (k : Int) j by rw [HST.out]; simp [hq])
            clear hq
            go_wp2
            refine ⟨⟨j + 1, h2, by omega, by go_num, Lib.hid ?_, by omega, hb2⟩, by simp [intOf]; omega⟩
            rw [HE.out]
            exact HI.out
        · obtain rfl : j = ps.length := by omega
          have HOL := Lib.hid HI.out.own
          obtain ⟨fb, hfb, hOR⟩ := HI.out.own.pick hh2
          have HOR := Lib.hid hOR
          have HBB := Lib.hid (HB.out.by hb2)
          have hnk := HNL.out k
          have HNK := Lib.hid hnk
          have HSX := Lib.hid (HNS.out k)
          have kR2 := Blk.by hb2 kR
          clear hOR hnk HI
          go_wp2_with (refine list_pushL (by rfl) _ _ (by rfl) (w.heap.size + 1 + 1) hi (.slice av k cv) (NL k) (by rfl) (HBB.out.by (by ((repeat (first | (with_reducible exact Below.refl _ _) | (with_reducible refine below_drewN ?_ _) | (with_reducible refine Below.drew ?_) | (with_reducible refine below_al ?_ _) | (with_reducible refine below_on (by assumption) ?_) | ((with_reducible refine Below.setCell ?_ ?_ _); rotate_left; focus (first | omega | (simp; done) | (simp; omega))) | (with_reducible assumption))); done))) wr.heap.size (portTo ps (k : Int) ps.length) _ fb (by rfl) (Blk.new _ rfl) (OwnR.by ((Below.refl _ wr).alloc (Nat.le_refl _) _) HOR.out) (by omega) (by omega) (by simp; omega) (by rw [HNK.out]; omega) ?_; intro a5 c5 w5 hB5 hw5; have HB5 := Lib.hid hB5; rw [HNK.out]; clear hB5)
          have hsz := hw5.size
          simp only [World.size_alloc] at hsz
          refine ⟨⟨k + 1, w5.heap.size, by omega, by go_num, Lib.hid ?_, by omega, hw5.blk (kA2.past _) (by omega), hw5.blk (kR2.past _) (by omega), hw5.below (below_al hbw _) (by omega)⟩, by simp [intOf]; omega⟩
          rw [HSX.out]
          have := HB5.out
          rw [HNK.out] at this
          exact this
    · obtain rfl : k = m := by omega
      have HLL1 := Lib.hid HB.out.ll.1
      obtain ⟨wo, hwo⟩ : ∃ y : World, y = wr := ⟨_, rfl⟩
      subst hwo
      clear HB
      go_wp2
      go_loopw [7, 8] (fun u i wr2 => ∃ (j h2 : Nat), j ≤ ds.length ∧ i = .int .i64 j ∧ Hid (BldL wr2 wo.heap.size h2 u (DL.take j)) ∧ wo.heap.size < h2 ∧ Below wo.heap.size wo wr2) (fun _ i _ => ds.length - (intOf i).toNat)
      case atStart =>
        refine ⟨0, wo.heap.size + 1, Nat.zero_le _, rfl, Lib.hid ?_, by omega, (by ((repeat (first | (with_reducible exact Below.refl _ _) | (with_reducible refine below_drewN ?_ _) | (with_reducible refine Below.drew ?_) | (with_reducible refine below_al ?_ _) | (with_reducible refine below_on (by assumption) ?_) | ((with_reducible refine Below.setCell ?_ ?_ _); rotate_left; focus (first | omega | (simp; done) | (simp; omega))) | (with_reducible assumption))); done))⟩
        rw [List.take_zero]
        exact BldL.lit (Blk.new _ rfl) (Nat.le_refl _) (by omega) (by simp)
      case round =>
        obtain ⟨j, h2, hj, rfl, HBd, hh2, hb2⟩ := hrel
        obtain ⟨ad, cd, rfl⟩ := HBd.out.sized
        have hml : (DL.take j).length = j := by rw [List.length_take, HDL.out]; omega
        rw [hml] at HBd ⊢
        have HML := Lib.hid hml
        have hIs := HBd.out.1
        have hb2s := hb2.size
        have kA2 := Blk.by hb2 kA
        have kR2 := Blk.by hb2 kR
        have qA2 := kA2.cell
        have lA2 := kA2.lt
        have hbw := below_on hb2 hb
        clear qA hml
        by_cases hlj : j < ds.length
        · obtain ⟨d, hd⟩ : ∃ d, ds[j]? = some d := ⟨ds[j], List.getElem?_eq_getElem hlj⟩
          rcases HD.out with ⟨_, _, _, e2⟩ | ⟨db, do_, dc, he, _, _, h4⟩
          · rw [e2] at hd; simp at hd
          obtain ⟨rfl, rfl⟩ : a1 = some ⟨db, do_, none⟩ ∧ c1 = dc := by simpa using he
          obtain ⟨sp, d1, d2, d3, d4, hS⟩ := (h4 j d hd).by hbw
          obtain ⟨ap, cp, rfl⟩ := hS.len
          have HDX := Lib.hid (HDT.out j d hd)
          have j1 : (0 : Int) ≤ (j : Int) := by omega
          have j2 : (j : Int) < (ds.length : Int) := by omega
          clear hd h4 he hS
          go_wp2_with (refine list_pushL (by rfl) _ _ (by rfl) wo.heap.size h2 (.slice ad j cd) (DL.take j) (by rfl) (HBd.out.by (by ((repeat (first | (with_reducible exact Below.refl _ _) | (with_reducible refine below_drewN ?_ _) | (with_reducible refine Below.drew ?_) | (with_reducible refine below_al ?_ _) | (with_reducible refine below_on (by assumption) ?_) | ((with_reducible refine Below.setCell ?_ ?_ _); rotate_left; focus (first | omega | (simp; done) | (simp; omega))) | (with_reducible assumption))); done))) (wr.heap.size + 1 + 1) [d.kind, d.wd, d.len] _ (wr.heap.size + 1) (by rfl) (Blk.new _ (by simp)) (ownR_three ((Blk.new _ (by simp)).past _)) (by omega) (by omega) (by simp) (by rw [HML.out]; omega) ?_; intro a5 c5 w5 hB5 hw5; have HB5 := Lib.hid hB5; rw [HML.out]; clear hB5)
          have hsz := hw5.size
          simp only [World.size_alloc] at hsz
          refine ⟨⟨j + 1, w5.heap.size, by omega, by go_num, Lib.hid ?_, by omega, hw5.below (below_al (below_al (below_al hb2 _) _) _) (by omega)⟩, by simp [intOf]; omega⟩
          rw [HDX.out]
          have := HB5.out
          rw [HML.out] at this
          exact this
        · obtain rfl : j = ds.length := by omega
          have hLL2 := HBd.out.ll.1
          rw [List.take_of_length_le (by rw [HDL.out]; exact Nat.le_refl _)] at hLL2
          have HLL2 := Lib.hid hLL2
          have hos := kR.lt
          clear hLL2 HBd
          go_wp2_with fail
          refine (HR1.out _ _ (HLL1.out.by hb2)).mono ?_
          rintro e w6 ⟨v6, rfl, hO6, hb6⟩
          have HO6 := Lib.hid hO6
          obtain ⟨a6, c6, rfl⟩ := hO6.sl.len
          rw [length_rankS] at HO6 ⊢
          have hs6 := hb6.size
          clear hO6
          go_wp2_with fail
          refine (HR2.out _ _ (HLL2.out.by hb6)).mono ?_
          rintro e w7 ⟨v7, rfl, hO7, hb7⟩
          have HO7 := Lib.hid hO7
          obtain ⟨a7, c7, rfl⟩ := hO7.sl.len
          rw [length_rankS] at HO7 ⊢
          have hs7 := hb7.size
          have kR7 := Blk.by hb7 (Blk.by hb6 kR2)
          have qR := kR7.cell
          have fR := kR7.free
          have lR := kR7.lt
          have hbw7 := below_on hb7 (below_on hb6 hbw)
          clear hO7 qA2
          go_wp2
          refine bodyPost_ret (v := .agg #[.slice a6 (NL k).length c6, .slice a7 DL.length c7]) (by simp [results, Tryz.results16, go_sem, *]) rfl ⟨_, rfl, ?_, (by ((repeat (first | (with_reducible exact Below.refl _ _) | (with_reducible refine below_drewN ?_ _) | (with_reducible refine Below.drew ?_) | (with_reducible refine below_al ?_ _) | (with_reducible refine below_on (by assumption) ?_) | ((with_reducible refine Below.setCell ?_ ?_ _); rotate_left; focus (first | omega | (simp; done) | (simp; omega))) | (with_reducible assumption))); done))⟩
          have hy := HY.out
          rw [← hy]
          refine ⟨_, _, wr.heap.size, w6.heap.size, w6.heap.size, w7.heap.size, rfl, ?_, ?_, ⟨by omega, by simp; omega⟩, ⟨by omega, by simp; try omega⟩, .inl (Nat.le_refl _)⟩
          · exact OwnR.past (Within.off _) (OwnR.past (Within.off _) (OwnR.by hb7 HO6.out) (by omega)) (by omega)
          · exact OwnR.past (Within.off _) (OwnR.past (Within.off _) HO7.out (by omega)) (by omega)
end Go.Proofs.YtahlojnkfppcpaaGreat
