/- Contracts and plain laws, part 9, for the statement's proof. -/
import Derived.Test.YtifbffianbgeaaaGreatPkExpLaw8
import Derived.BigRegion
import Derived.Deep.RegionHeld3
namespace Go.Proofs.YtifbffianbgeaaaGreat
open Go.RowKit
set_option linter.unusedVariables false
set_option linter.unusedSimpArgs false
theorem ownR_three {w : World} {g : Nat} {a b c : Int} (h : Blk w g #[.int .i64 a, .int .i64 b, .int .i64 c] 2) : OwnR w g (g + 1) (.slice (some ⟨g, 0, none⟩) 3 3) [a, b, c] :=
  .inr ⟨g, 3, _, rfl, Nat.le_refl _, Nat.lt_succ_self _, Nat.le_refl _, by unfold maxLen; omega, h, fun i x hx => by
    match i, hx with
    | 0, hx => simp at hx; subst hx; rfl
    | 1, hx => simp at hx; subst hx; rfl
    | 2, hx => simp at hx; subst hx; rfl
    | i + 3, hx => simp at hx⟩
set_option maxRecDepth 100000 in
set_option maxHeartbeats 2000000 in
theorem specIni_any (x : Nl) (v : Value) (m : Nat) (w : World) (h : NlV w v x) (hm : x.nets = m) (hm24 : m ≤ 24) (hl : x.ds.length ≤ 24) (hpl : x.ps.length ≤ 8) :
    Calls Tryz.prog 99 #[v] w fun e w' => ∃ v', e = .returned v' ∧ OwnPr w' w.heap.size w'.heap.size v' (iniS x) ∧ Below w.heap.size w w' := by
  obtain ⟨s1, s2, rfl, hd, hp⟩ := h
  obtain ⟨Y, hY⟩ : ∃ Y, iniS x = Y := ⟨_, rfl⟩
  rw [hY]
  have hY' : (rankS (netL x m), rankS (devL x.ds)) = Y := by rw [← hY]; unfold iniS; rw [hm, Int.toNat_natCast]
  have HY := Lib.hid hY'
  have HNS := Lib.hid (fun n => netL_step x n)
  have HNL := Lib.hid (fun n => length_netL x n)
  have HN0 := Lib.hid (show netL x 0 = [] from rfl)
  obtain ⟨nets, ds, ps⟩ := x
  dsimp only at hd hp hm hl hpl HY HNS
  subst hm
  have HD := Lib.hid hd
  have HP := Lib.hid hp
  have HPS := Lib.hid (fun net k p => portTo_step ps net k p)
  have HPL := Lib.hid (fun net k => portTo_len ps net k)
  have HDL := Lib.hid (length_devL ds)
  have HDT := Lib.hid (fun k d (h : ds[k]? = some d) => show (devL ds).take (k + 1) = (devL ds).take k ++ [[d.kind, d.wd, d.len]] from take_snoc_of (devL ds) k _ (by simp [devL, h]))
  have HR1 := Lib.hid (fun sv w h => specRanks_any (netL ⟨(m : Int), ds, ps⟩ m) sv w h (by rw [length_netL]; omega))
  have HR2 := Lib.hid (fun sv w h => specRanks_any (devL ds) sv w h (by rw [length_devL]; omega))
  generalize netL ⟨(m : Int), ds, ps⟩ = NL at *
  generalize devL ds = DL at *
  obtain ⟨a1, c1, rfl⟩ := hd.sized
  obtain ⟨a2, c2, rfl⟩ := hp.sized
  clear hd hp hY hY'
  go_enter Tryz.func99, Tryz.ntmps99
  go_wp2
  go_loopw [3, 4, 5, 6] (fun u i _ _ wr => ∃ (k hi : Nat), k ≤ m ∧ i = .int .i64 k ∧ Hid (BldL wr (w.heap.size + 1 + 1) hi u (NL k)) ∧ w.heap.size + 1 + 1 < hi ∧ Blk wr w.heap.size #[.int .i64 (m : Int), .slice a1 ds.length c1, .slice a2 ps.length c2] 35 ∧ Blk wr (w.heap.size + 1) #[.slice none 0 0, .slice none 0 0] 81 ∧ Below w.heap.size w wr) (fun _ i _ _ _ => m - (intOf i).toNat)
  case atStart =>
    refine ⟨0, w.heap.size + 1 + 1 + 1, Nat.zero_le _, rfl, Lib.hid ?_, by omega, blkT, blkT, blwT⟩
    rw [HN0.out]
    exact BldL.lit (Blk.new _ (by simp)) (Nat.le_refl _) (by omega) (by simp)
  case round =>
    obtain ⟨k, hi, hk, rfl, HB, hhi, kA, kR, hb⟩ := hrel
    obtain ⟨av, cv, rfl⟩ := HB.out.sized
    rw [HNL.out k] at HB ⊢
    have hhs := HB.out.1
    have qA := kA.cell
    by_cases hlt : k < m
    · obtain ⟨wo, hwo⟩ : ∃ y : World, y = wr := ⟨_, rfl⟩
      subst hwo
      go_wp2
      go_loopw [5, 6] (fun l i wr2 => ∃ (j h2 : Nat), j ≤ ps.length ∧ i = .int .i64 j ∧ Hid (BldI wr2 wo.heap.size h2 l (portTo ps (k : Int) j)) ∧ wo.heap.size < h2 ∧ Below wo.heap.size wo wr2) (fun _ i _ => ps.length - (intOf i).toNat)
      case atStart =>
        refine ⟨0, wo.heap.size + 1, Nat.zero_le _, rfl, Lib.hid ?_, by omega, blwT⟩
        have hB : Blk (wo.alloc (.cells #[] 2)) wo.heap.size #[] 2 := Blk.new _ rfl
        exact BldI.lit (zs := []) hB rfl (by simp) (Nat.le_refl _) (by omega) (by simp)
      case round =>
        obtain ⟨j, h2, hj, rfl, HI, hh2, hb2⟩ := hrel
        obtain ⟨al, cl, rfl⟩ := HI.out.sized
        have hIs := HI.out.1
        have hb2s := hb2.size
        have kA2 := Blk.by hb2 kA
        have qA2 := kA2.cell
        have hbw := below_on hb2 hb
        clear qA
        by_cases hlj : j < ps.length
        · obtain ⟨p, hp⟩ : ∃ p, ps[j]? = some p := ⟨ps[j], List.getElem?_eq_getElem hlj⟩
          rcases HP.out with ⟨_, _, _, e2⟩ | ⟨pb, po, pc, he, _, _, h4⟩
          · rw [e2] at hp; simp at hp
          obtain ⟨rfl, rfl⟩ : a2 = some ⟨pb, po, none⟩ ∧ c2 = pc := by simpa using he
          obtain ⟨p1, p2⟩ := (h4 j p hp).by hbw
          have hst := HPS.out (k : Int) j p hp
          have hlen := HPL.out (k : Int) j
          obtain ⟨pn, hpn⟩ : ∃ z, p.net = z := ⟨_, rfl⟩
          rw [hpn] at p2 hst
          have HST := Lib.hid hst
          have j1 : (0 : Int) ≤ (j : Int) := by omega
          have j2 : (j : Int) < (ps.length : Int) := by omega
          clear hp h4 he hst hpn p1
          by_cases hq : pn = (k : Int)
          · subst hq
            have e3 : ((k : Int) == (k : Int)) = true := by simp
            go_wp2_with (refine list_pushI (by rfl) _ _ (by rfl) wo.heap.size h2 _ _ [(j : Int)] (by rfl) (HI.out.by blwT) wr.heap.size 1 #[.int .i64 (j : Int)] (by rfl) (by rfl) (by omega) (Blk.new _ rfl) (by rfl) (by omega) (by omega) ?_; intro a5 c5 w5 hB5 hw5; have HB5 := Lib.hid hB5; clear hB5)
            have hsz := hw5.size
            simp only [World.size_alloc] at hsz
            refine ⟨⟨j + 1, w5.heap.size, by omega, by go_num, Lib.hid ?_, by omega, hw5.below (below_al hb2 _) (by omega)⟩, by simp [intOf]; omega⟩
            rw [HST.out]
            simpa using HB5.out
          · have e3 : (pn == (k : Int)) = false := by simpa using hq
            have HE := Lib.hid (show portTo ps (k : Int) (j + 1) = portTo ps (k : Int) j by rw [HST.out]; simp [hq])
            clear hq
            go_wp2
            refine ⟨⟨j + 1, h2, by omega, by go_num, Lib.hid ?_, by omega, hb2⟩, by simp [intOf]; omega⟩
            rw [HE.out]
            exact HI.out
        · obtain rfl : j = ps.length := by omega
          have HOL := Lib.hid HI.out.own
          obtain ⟨fb, hfb, hOR⟩ := HI.out.own.pick hh2
          have HOR := Lib.hid hOR
          have HBB := Lib.hid (HB.out.by hb2)
          have hnk := HNL.out k
          have HNK := Lib.hid hnk
          have HSX := Lib.hid (HNS.out k)
          have kR2 := Blk.by hb2 kR
          clear hOR hnk HI
          go_wp2_with (refine list_pushL (by rfl) _ _ (by rfl) (w.heap.size + 1 + 1) hi (.slice av k cv) (NL k) (by rfl) (HBB.out.by blwT) wr.heap.size (portTo ps (k : Int) ps.length) _ fb (by rfl) (Blk.new _ rfl) (OwnR.by ((Below.refl _ wr).alloc (Nat.le_refl _) _) HOR.out) (by omega) (by omega) (by simp; omega) (by rw [HNK.out]; omega) ?_; intro a5 c5 w5 hB5 hw5; have HB5 := Lib.hid hB5; rw [HNK.out]; clear hB5)
          have hsz := hw5.size
          simp only [World.size_alloc] at hsz
          refine ⟨⟨k + 1, w5.heap.size, by omega, by go_num, Lib.hid ?_, by omega, hw5.blk (kA2.past _) (by omega), hw5.blk (kR2.past _) (by omega), hw5.below (below_al hbw _) (by omega)⟩, by simp [intOf]; omega⟩
          rw [HSX.out]
          have := HB5.out
          rw [HNK.out] at this
          exact this
    · obtain rfl : k = m := by omega
      have HLL1 := Lib.hid HB.out.ll.1
      obtain ⟨wo, hwo⟩ : ∃ y : World, y = wr := ⟨_, rfl⟩
      subst hwo
      clear HB
      go_wp2
      go_loopw [7, 8] (fun u i wr2 => ∃ (j h2 : Nat), j ≤ ds.length ∧ i = .int .i64 j ∧ Hid (BldL wr2 wo.heap.size h2 u (DL.take j)) ∧ wo.heap.size < h2 ∧ Below wo.heap.size wo wr2) (fun _ i _ => ds.length - (intOf i).toNat)
      case atStart =>
        refine ⟨0, wo.heap.size + 1, Nat.zero_le _, rfl, Lib.hid ?_, by omega, blwT⟩
        rw [List.take_zero]
        exact BldL.lit (Blk.new _ rfl) (Nat.le_refl _) (by omega) (by simp)
      case round =>
        obtain ⟨j, h2, hj, rfl, HBd, hh2, hb2⟩ := hrel
        obtain ⟨ad, cd, rfl⟩ := HBd.out.sized
        have hml : (DL.take j).length = j := by rw [List.length_take, HDL.out]; omega
        rw [hml] at HBd ⊢
        have HML := Lib.hid hml
        have hIs := HBd.out.1
        have hb2s := hb2.size
        have kA2 := Blk.by hb2 kA
        have kR2 := Blk.by hb2 kR
        have qA2 := kA2.cell
        have lA2 := kA2.lt
        have hbw := below_on hb2 hb
        clear qA hml
        by_cases hlj : j < ds.length
        · obtain ⟨d, hd⟩ : ∃ d, ds[j]? = some d := ⟨ds[j], List.getElem?_eq_getElem hlj⟩
          rcases HD.out with ⟨_, _, _, e2⟩ | ⟨db, do_, dc, he, _, _, h4⟩
          · rw [e2] at hd; simp at hd
          obtain ⟨rfl, rfl⟩ : a1 = some ⟨db, do_, none⟩ ∧ c1 = dc := by simpa using he
          obtain ⟨sp, d1, d2, d3, d4, hS⟩ := (h4 j d hd).by hbw
          obtain ⟨ap, cp, rfl⟩ := hS.len
          have HDX := Lib.hid (HDT.out j d hd)
          have j1 : (0 : Int) ≤ (j : Int) := by omega
          have j2 : (j : Int) < (ds.length : Int) := by omega
          clear hd h4 he hS
          go_wp2_with (refine list_pushL (by rfl) _ _ (by rfl) wo.heap.size h2 (.slice ad j cd) (DL.take j) (by rfl) (HBd.out.by blwT) (wr.heap.size + 1 + 1) [d.kind, d.wd, d.len] _ (wr.heap.size + 1) (by rfl) (Blk.new _ (by simp)) (ownR_three ((Blk.new _ (by simp)).past _)) (by omega) (by omega) (by simp) (by rw [HML.out]; omega) ?_; intro a5 c5 w5 hB5 hw5; have HB5 := Lib.hid hB5; rw [HML.out]; clear hB5)
          have hsz := hw5.size
          simp only [World.size_alloc] at hsz
          refine ⟨⟨j + 1, w5.heap.size, by omega, by go_num, Lib.hid ?_, by omega, hw5.below (below_al (below_al (below_al hb2 _) _) _) (by omega)⟩, by simp [intOf]; omega⟩
          rw [HDX.out]
          have := HB5.out
          rw [HML.out] at this
          exact this
        · obtain rfl : j = ds.length := by omega
          have hLL2 := HBd.out.ll.1
          rw [List.take_of_length_le (by rw [HDL.out]; exact Nat.le_refl _)] at hLL2
          have HLL2 := Lib.hid hLL2
          have hos := kR.lt
          clear hLL2 HBd
          go_wp2_with fail
          refine (HR1.out _ _ (HLL1.out.by hb2)).mono ?_
          rintro e w6 ⟨v6, rfl, hO6, hb6⟩
          have HO6 := Lib.hid hO6
          obtain ⟨a6, c6, rfl⟩ := hO6.sl.len
          rw [length_rankS] at HO6 ⊢
          have hs6 := hb6.size
          clear hO6
          go_wp2_with fail
          refine (HR2.out _ _ (HLL2.out.by hb6)).mono ?_
          rintro e w7 ⟨v7, rfl, hO7, hb7⟩
          have HO7 := Lib.hid hO7
          obtain ⟨a7, c7, rfl⟩ := hO7.sl.len
          rw [length_rankS] at HO7 ⊢
          have hs7 := hb7.size
          have kR7 := Blk.by hb7 (Blk.by hb6 kR2)
          have qR := kR7.cell
          have fR := kR7.free
          have lR := kR7.lt
          have hbw7 := below_on hb7 (below_on hb6 hbw)
          clear hO7 qA2
          go_wp2
          refine bodyPost_ret (v := .agg #[.slice a6 (NL k).length c6, .slice a7 DL.length c7]) (by simp [results, Tryz.results99, go_sem, *]) rfl ⟨_, rfl, ?_, blwT⟩
          have hy := HY.out
          rw [← hy]
          refine ⟨_, _, wr.heap.size, w6.heap.size, w6.heap.size, w7.heap.size, rfl, ?_, ?_, ⟨by omega, by simp; omega⟩, ⟨by omega, by simp; try omega⟩, .inl (Nat.le_refl _)⟩
          · exact OwnR.past (Within.off _) (OwnR.past (Within.off _) (OwnR.by hb7 HO6.out) (by omega)) (by omega)
          · exact OwnR.past (Within.off _) (OwnR.past (Within.off _) HO7.out (by omega)) (by omega)
/- The program's initialColoring. -/
set_option maxRecDepth 100000 in
set_option maxHeartbeats 2000000 in
theorem implIni_any (x : Nl) (v : Value) (m : Nat) (w : World) (h : NlV w v x) (hm : x.nets = m) (hm24 : m ≤ 24) (hl : x.ds.length ≤ 24) (hpl : x.ps.length ≤ 8) (hpn : ∀ p ∈ x.ps, 0 ≤ p.net ∧ p.net < x.nets) :
    Calls Tryz.prog 131 #[v] w fun e w' => ∃ v', e = .returned v' ∧ OwnPr w' w.heap.size w'.heap.size v' (iniS x) ∧ Below w.heap.size w w' := by
  obtain ⟨s1, s2, rfl, hd, hp⟩ := h
  obtain ⟨Y, hY⟩ : ∃ Y, iniS x = Y := ⟨_, rfl⟩
  rw [hY]
  have hY' : (rankS ((List.range m).map fun j : Nat => portTo x.ps (j : Int) x.ps.length), rankS (devL x.ds)) = Y := by rw [← hY]; unfold iniS netL; rw [hm, Int.toNat_natCast]
  have HY := Lib.hid hY'
  obtain ⟨nets, ds, ps⟩ := x
  dsimp only at hd hp hm hl hpl HY hpn
  subst hm
  have HD := Lib.hid hd
  have HP := Lib.hid hp
  have HPN := Lib.hid hpn
  have HPS := Lib.hid (fun net k p => portTo_step ps net k p)
  have HPL := Lib.hid (fun net k => portTo_len ps net k)
  have HP0 := Lib.hid (fun net => show portTo ps net 0 = [] from rfl)
  have HDL := Lib.hid (length_devL ds)
  have HDT := Lib.hid (fun k d (h : ds[k]? = some d) => show (devL ds).take (k + 1) = (devL ds).take k ++ [[d.kind, d.wd, d.len]] from take_snoc_of (devL ds) k _ (by simp [devL, h]))
  have HR1 := Lib.hid (fun sv w h hf => implRanks_any ((List.range m).map fun j : Nat => portTo ps (j : Int) ps.length) sv w h hf (by simp; omega))
  have HR2 := Lib.hid (fun sv w h hf => implRanks_any (devL ds) sv w h hf (by rw [length_devL]; omega))
  generalize devL ds = DL at *
  obtain ⟨a1, c1, rfl⟩ := hd.sized
  obtain ⟨a2, c2, rfl⟩ := hp.sized
  obtain ⟨N, hN⟩ : ∃ N, w.heap.size + 1 + 1 = N := ⟨_, rfl⟩
  obtain ⟨cs0, hcs0, hcz, hmk⟩ := make_lists m (by omega) ((w.alloc (.cells #[.int .i64 (m : Int), .slice a1 ds.length c1, .slice a2 ps.length c2] 35)).alloc (.cells #[.slice none 0 0, .slice none 0 0] 81))
  simp only [World.size_alloc] at hmk
  have HN := Lib.hid hN
  clear hd hp hY hY' hpn hN
  go_enter Tryz.func131, Tryz.ntmps131
  go_wp2
  clear hmk
  rw [HN.out]
  obtain ⟨wI, hwI⟩ : ∃ wI, wI = (((w.alloc (.cells #[.int .i64 (m : Int), .slice a1 ds.length c1, .slice a2 ps.length c2] 35)).alloc (.cells #[.slice none 0 0, .slice none 0 0] 81)).alloc (.cells cs0 27)).alloc (.cells #[] 27) := ⟨_, rfl⟩
  have kA : Blk wI w.heap.size #[.int .i64 (m : Int), .slice a1 ds.length c1, .slice a2 ps.length c2] 35 := by rw [hwI]; exact blkT
  have kR : Blk wI (w.heap.size + 1) #[.slice none 0 0, .slice none 0 0] 81 := by rw [hwI]; exact blkT
  have kN : Blk wI N cs0 27 := by rw [hwI, ← HN.out]; exact blkT
  have kE : Blk wI (N + 1) #[] 27 := by rw [hwI, ← HN.out]; exact blkT
  have hbI : Below w.heap.size w wI := by rw [hwI]; exact blwT
  have hsI : wI.heap.size = N + 2 := by rw [hwI, ← HN.out]; simp
  have hNI : NetsI wI N (N + 2) m (fun j : Nat => portTo ps (j : Int) 0) := by
    refine ⟨cs0, fun _ => .slice none 0 0, kN, hcs0, fun j hj => ⟨hcz j hj, ?_⟩, fun i j hi hj hij g hg => by cases hg⟩
    show BldI wI (N + 2) wI.heap.size (.slice none 0 0) (portTo ps (j : Int) 0)
    rw [HP0.out]
    exact BldI.nil wI (N + 2)
  have HNI := Lib.hid hNI
  have hNw : w.heap.size + 1 < N := by have := HN.out; omega
  rw [← hwI]
  clear hwI kN hcz hcs0 hsI hNI
  go_loopw [16] (fun i wr => ∃ k : Nat, k ≤ ps.length ∧ i = .int .i64 k ∧ Hid (NetsI wr N (N + 2) m (fun j : Nat => portTo ps (j : Int) k)) ∧ Blk wr w.heap.size #[.int .i64 (m : Int), .slice a1 ds.length c1, .slice a2 ps.length c2] 35 ∧ Blk wr (w.heap.size + 1) #[.slice none 0 0, .slice none 0 0] 81 ∧ Blk wr (N + 1) #[] 27 ∧ Below w.heap.size w wr) (fun i _ => ps.length - (intOf i).toNat)
  case atStart => exact ⟨0, Nat.zero_le _, rfl, HNI, kA, kR, kE, hbI⟩
  case round =>
    clear HNI kA kR kE hbI
    obtain ⟨k, hk, rfl, HNI, kA, kR, kE, hb⟩ := hrel
    have qA := kA.cell
    have lA := kA.lt
    have lE := kE.lt
    by_cases hlt : k < ps.length
    · obtain ⟨p, hp⟩ : ∃ p, ps[k]? = some p := ⟨ps[k], List.getElem?_eq_getElem hlt⟩
      obtain ⟨hp0, hp1⟩ := HPN.out p (List.mem_of_getElem? hp)
      rcases HP.out with ⟨_, _, _, e2⟩ | ⟨pb, po, pc, he, _, _, h4⟩
      · rw [e2] at hp; simp at hp
      obtain ⟨rfl, rfl⟩ : a2 = some ⟨pb, po, none⟩ ∧ c2 = pc := by simpa using he
      obtain ⟨p1, p2⟩ := (h4 k p hp).by hb
      have hst := fun net => HPS.out net k p hp
      obtain ⟨name, net⟩ := p
      dsimp only at p1 p2 hst hp0 hp1
      obtain ⟨pn, rfl⟩ : ∃ n : Nat, net = n := ⟨net.toNat, by omega⟩
      have hpm : pn < m := by omega
      obtain ⟨cs, vs, n1, n2, n3, n4⟩ := HNI.out
      obtain ⟨n5, n6⟩ := n3 pn hpm
      obtain ⟨av, cv, hvs⟩ := n6.sized
      have hlen := HPL.out (pn : Int) k
      have HST := Lib.hid hst
      have HN1 := Lib.hid n1
      have HN2 := Lib.hid n2
      have HN3 := Lib.hid n3
      have HN4 := Lib.hid n4
      have HN6 := Lib.hid n6
      have cN : wr.cell? ⟨N, pn, none⟩ = some (vs pn) := (n1.cell _).trans n5
      have lN := n1.lt
      have i1 : (0 : Int) ≤ (k : Int) := by omega
      have i2 : (k : Int) < (ps.length : Int) := by omega
      have i3 : (0 : Int) ≤ (pn : Int) := by omega
      have i4 : (pn : Int) < (m : Int) := by omega
      have hvo : (vs pn).ownBlock ≠ some N := fun e => by have := n6.2.2 N e; omega
      have hvl : ∀ g, (vs pn).ownBlock = some g → N + 2 ≤ g ∧ g < wr.heap.size := fun g e => n6.2.2 g e
      have HVL := Lib.hid hvl
      clear hp h4 he hst n1 n2 n3 n4 n5 n6 hvl hp0 hp1
      rw [hvs] at cN HN6
      have HVS := Lib.hid hvs
      obtain ⟨wo, hwo⟩ : ∃ y : World, y = wr := ⟨_, rfl⟩
      subst hwo
      clear hvs
      go_upto_region 5 with fail
      obtain ⟨D, hD⟩ : ∃ D, wo.heap.size = D := ⟨_, rfl⟩
      obtain ⟨wA, hwA⟩ : ∃ wA, wA = wo.alloc (.cells #[.string name, .int .i64 (pn : Int)] 98) := ⟨_, rfl⟩
      have hal : Below wo.heap.size wo wA := by rw [hwA]; exact (Below.refl _ wo).alloc (Nat.le_refl _) _
      have kD : Blk wA D #[.string name, .int .i64 (pn : Int)] 98 := by rw [hwA]; exact Blk.new _ hD.symm
      have hsA : wA.heap.size = D + 1 := by rw [hwA]; simp [hD]
      rw [← hwA]
      (try rw [hD])
      have cD1 : wA.cell? ⟨D, 1, none⟩ = some (.int .i64 (pn : Int)) := kD.cell 1
      have cNA : wA.cell? ⟨N, pn, none⟩ = some (.slice av (portTo ps (pn : Int) k).length cv) := cell_by' hal cN
      have HAL := Lib.hid hal
      have HDD := Lib.hid hD
      have HSA := Lib.hid hsA
      clear hwA cN qA hal hD hsA p1 p2
      refine wp_region_any (by kernel_rfl) (wpAny_of_E (S := fun w' => w'.cell? ⟨D, 1, none⟩ = some (.int .i64 (pn : Int)) ∧ w'.cell? ⟨N, pn, none⟩ = some (.slice av (portTo ps (pn : Int) k).length cv)) (l := 12) _ _ _ _ ?_)
      have hS : (fun w' : World => w'.cell? ⟨D, 1, none⟩ = some (.int .i64 (pn : Int)) ∧ w'.cell? ⟨N, pn, none⟩ = some (.slice av (portTo ps (pn : Int) k).length cv)) { wA with drawn := wA.drawn + 1 } := ⟨cD1, cNA⟩
      change wpAnyE _ _ _ _ _ _ _ _ _ wA.drew
      refine wpAnyE_take (i := 0) (v := ?_) rfl (by kernel_rfl) (fun _ _ _ h => h) (Or.inl ⟨by rfl, ?_⟩) hS ?_
      rotate_left
      · intro w hSw; (try dsimp only at hSw); go_simp; (try with_reducible rfl)
      try simp only [Act.put, List.setIfInBounds_toArray, List.set_cons_zero, List.set_cons_succ]
      refine wpAnyE_take (i := 1) (v := ?_) rfl (by kernel_rfl) (fun _ _ _ h => h) (Or.inl ⟨by rfl, ?_⟩) hS ?_
      rotate_left
      · intro w hSw; (try dsimp only at hSw); go_simp; (try with_reducible rfl)
      try simp only [Act.put, List.setIfInBounds_toArray, List.set_cons_zero, List.set_cons_succ]
      refine wpAnyE_take (i := 2) (v := ?_) rfl (by kernel_rfl) (fun _ _ _ h => h) (Or.inl ⟨by rfl, ?_⟩) hS ?_
      rotate_left
      · intro w hSw; (try dsimp only at hSw); go_simp; (try with_reducible rfl)
      try simp only [Act.put, List.setIfInBounds_toArray, List.set_cons_zero, List.set_cons_succ]
      refine wpAnyE_take (i := 3) (v := ?_) rfl (by kernel_rfl) (fun _ _ _ h => h) (Or.inl ⟨by rfl, ?_⟩) hS ?_
      rotate_left
      · intro w hSw; (try dsimp only at hSw); go_simp; (try with_reducible rfl)
      try simp only [Act.put, List.setIfInBounds_toArray, List.set_cons_zero, List.set_cons_succ]
      refine wpAnyE_take (i := 4) (v := ?_) rfl (by kernel_rfl) (fun _ _ _ h => h) (Or.inl ⟨by rfl, ?_⟩) hS ?_
      rotate_left
      · intro w hSw; (try dsimp only at hSw); go_simp; (try with_reducible rfl)
      try simp only [Act.put, List.setIfInBounds_toArray, List.set_cons_zero, List.set_cons_succ]
      refine wpAnyE_take (i := 5) (v := ?_) rfl (by kernel_rfl) (fun _ _ _ h => h) (Or.inl ⟨by rfl, ?_⟩) hS ?_
      rotate_left
      · intro w hSw; (try dsimp only at hSw); go_simp; (try with_reducible rfl)
      try simp only [Act.put, List.setIfInBounds_toArray, List.set_cons_zero, List.set_cons_succ]
      refine wpAnyE_take (i := 6) (v := ?_) rfl (by kernel_rfl) (fun _ _ _ h => h) (Or.inl ⟨by rfl, ?_⟩) hS ?_
      rotate_left
      · intro w hSw; (try dsimp only at hSw); go_simp; (try with_reducible rfl)
      try simp only [Act.put, List.setIfInBounds_toArray, List.set_cons_zero, List.set_cons_succ]
      refine wpAnyE_take (i := 7) (v := ?_) rfl (by kernel_rfl) (fun _ _ _ h => h) (Or.inl ⟨by rfl, ?_⟩) hS ?_
      rotate_left
      · intro w hSw; (try dsimp only at hSw); go_simp; (try with_reducible rfl)
      try simp only [Act.put, List.setIfInBounds_toArray, List.set_cons_zero, List.set_cons_succ]
      refine wpAnyE_take (i := 8) (v := ?_) rfl (by kernel_rfl) (fun _ _ _ h => h) (Or.inl ⟨by rfl, ?_⟩) hS ?_
      rotate_left
      · intro w hSw; (try dsimp only at hSw); go_simp; (try with_reducible rfl)
      try simp only [Act.put, List.setIfInBounds_toArray, List.set_cons_zero, List.set_cons_succ]
      refine wpAnyE_one (k := 9) (by kernel_rfl) rfl (fun K hK => ?_)
      go_simp
      have hal2 : Below wA.heap.size wA (wA.drew.alloc (.cells #[.int .i64 (k : Int)] 2)) := (Below.refl _ wA).drew.alloc (Nat.le_refl _) _
      refine hK.out _ _ (fun _ => ⟨cell_by' hal2 cD1, cell_by' hal2 cNA⟩) ?_
      try simp only [Act.put, List.setIfInBounds_toArray, List.set_cons_zero, List.set_cons_succ]
      refine wpAnyE_one (k := 10) (by kernel_rfl) rfl (fun K hK => ?_)
      refine step_pushG (by rfl) _ _ (by rfl) (N + 2) wo.heap.size (.slice av (portTo ps (pn : Int) k).length cv) (portTo ps (pn : Int) k) [(k : Int)] (by rfl) ((HN6.out.by HAL.out).by hal2) wA.heap.size 1 #[.int .i64 (k : Int)] (by rfl) rfl (by omega) (Blk.new _ rfl) rfl (by omega) (by omega) ?_
      intro g5 c5 w5 hB5 hk5 ho5 hw5
      have hsz5 := hw5.size
      simp only [World.size_alloc, World.size_drew] at hsz5 hk5 ho5
      have HVS' := HVS.out
      have hvo' : (Value.slice av (portTo ps (pn : Int) k).length cv).ownBlock ≠ some N := by rw [← HVS']; exact hvo
      have hvl' : ∀ g, (Value.slice av (portTo ps (pn : Int) k).length cv).ownBlock = some g → N + 2 ≤ g ∧ g < wo.heap.size := by rw [← HVS']; exact HVL.out
      have hDn : (Value.slice av (portTo ps (pn : Int) k).length cv).ownBlock ≠ some D := fun e => by have := hvl' D e; have := HDD.out; omega
      have hsA := HSA.out
      have hDD := HDD.out
      have hold : ∀ q, q < wo.heap.size → (Value.slice av (portTo ps (pn : Int) k).length cv).ownBlock ≠ some q → w5.heap[q]? = wo.heap[q]? := fun q hq hne => (hk5 q (by omega) hne).trans ((hal2.block q (by omega)).trans (HAL.out.block q hq))
      have cN5 : w5.cell? ⟨N, pn, none⟩ = some (.slice av (portTo ps (pn : Int) k).length cv) := by
        have := cell_by' hal2 cNA
        rw [← this]
        simp only [World.cell?]
        rw [hk5 N (by omega) hvo']
        rfl
      have kD5 : Blk w5 D #[.string name, .int .i64 (pn : Int)] 98 := (hk5 D (by omega) hDn).trans (Blk.by hal2 kD)
      have cD5 : w5.cell? ⟨D, 1, none⟩ = some (.int .i64 (pn : Int)) := kD5.cell 1
      have kN5 : Blk w5 N _ 27 := (hold N (by omega) hvo').trans HN1.out
      have fN5 := kN5.free
      have lN5 := kN5.lt
      have hS5 : w5.cell? ⟨D, 1, none⟩ = some (.int .i64 (pn : Int)) ∧ w5.cell? ⟨N, pn, none⟩ = some (.slice av (portTo ps (pn : Int) k).length cv) := ⟨cD5, cN5⟩
      have hA5 : (Value.slice av (portTo ps (pn : Int) k).length cv).ownBlock ≠ some w.heap.size := fun e => by have := hvl' _ e; omega
      have hR5 : (Value.slice av (portTo ps (pn : Int) k).length cv).ownBlock ≠ some (w.heap.size + 1) := fun e => by have := hvl' _ e; omega
      have hE5 : (Value.slice av (portTo ps (pn : Int) k).length cv).ownBlock ≠ some (N + 1) := fun e => by have := hvl' _ e; omega
      have kA5 : Blk w5 w.heap.size _ 35 := (hold _ kA.lt hA5).trans kA
      have kR5 : Blk w5 (w.heap.size + 1) #[.slice none 0 0, .slice none 0 0] 81 := (hold _ kR.lt hR5).trans kR
      have kE5 : Blk w5 (N + 1) #[] 27 := (hold _ kE.lt hE5).trans kE
      have hW5 : Within (N + 2) wo.heap.size wo w5 := ⟨hw5.os.trans (hal2.os.trans HAL.out.os), hw5.tape.trans (hal2.tape.trans HAL.out.tape), hw5.output.trans (hal2.output.trans HAL.out.output), by omega, fun q hq hne => hold q hq (fun e => by have := hvl' q e; omega)⟩
      have hb5 := hW5.below hb (by omega)
      have HB5 := Lib.hid hB5
      have HK5 := Lib.hid hold
      have HO5 := Lib.hid ho5
      clear hB5 hk5 hold ho5 HVS'
      refine hK.out _ _ (fun _ => hS5) ?_
      try simp only [Act.put, List.setIfInBounds_toArray, List.set_cons_zero, List.set_cons_succ]
      refine wpAnyE_one (k := 11) (by kernel_rfl) rfl (fun K hK => ?_)
      go_simp
      refine hK.out _ _ (fun _ => hS5) ?_
      try simp only [Act.put, List.setIfInBounds_toArray, List.set_cons_zero, List.set_cons_succ]
      refine wpAnyE_one (k := 12) (by kernel_rfl) rfl (fun K hK => ?_)
      go_simp
      refine hK.out _ _ (fun h => absurd rfl h) ?_
      refine wpAnyE_done (by kernel_rfl) ?_ _
      clear hS hS5
      go_wp2_with fail
      have hstep : portTo ps (pn : Int) (k + 1) = portTo ps (pn : Int) k ++ [(k : Int)] := by rw [HST.out]; simp
      have hlen2 : (portTo ps (pn : Int) (k + 1)).length = (portTo ps (pn : Int) k).length + 1 := by rw [hstep]; simp
      refine ⟨⟨k + 1, by omega, by go_num, Lib.hid ?_, kA5.apart N pn _ (by omega), kR5.apart N pn _ (by omega), kE5.apart N pn _ (by omega), hb5.setCell (by simp; omega) _⟩, by simp [intOf]; omega⟩
      have hfin := NetsI.grow (lst := fun j : Nat => portTo ps (j : Int) k) (lst' := fun j : Nat => portTo ps (j : Int) (k + 1)) (g := g5) (cap := c5) HN1.out HN2.out HN3.out HN4.out hpm (by omega) (by
        (try dsimp only)
        rw [hlen2, hstep]
        exact HB5.out) (by rw [HVS.out]; exact HK5.out) (by rw [HVS.out]; exact HO5.out.imp id (fun e => by omega)) (by omega) (fun i hi => by
        (try dsimp only)
        rw [HST.out, if_neg (by omega), List.append_nil])
      (try dsimp only at hfin)
      rw [hlen2] at hfin
      exact hfin
    · obtain rfl : k = ps.length := by omega
      obtain ⟨wo, hwo⟩ : ∃ y : World, y = wr := ⟨_, rfl⟩
      subst hwo
      have hNI := HNI.out
      have HNO := Lib.hid hNI
      have hlo := kE.lt
      clear hNI HNI
      go_wp2
      go_loopw [4, 37] (fun u i wr2 => ∃ (j h2 : Nat), j ≤ ds.length ∧ i = .int .i64 j ∧ Hid (BldL wr2 (N + 1) h2 u (DL.take j)) ∧ N + 1 < h2 ∧ wo.heap.size ≤ wr2.heap.size ∧ (∀ g, u.ownBlock = some g → g = N + 1 ∨ wo.heap.size ≤ g) ∧ Off (N + 1) wo wr2 ∧ Below w.heap.size w wr2) (fun _ i _ => ds.length - (intOf i).toNat)
      case atStart =>
        refine ⟨0, N + 2, Nat.zero_le _, rfl, Lib.hid ?_, by omega, Nat.le_refl _, fun g0 e0 => .inl ?_, fun q hq hne => rfl, hb⟩
        · rw [List.take_zero]
          exact BldL.lit kE (Nat.le_refl _) (by omega) (by omega)
        · have e1 : N + 1 = g0 := by injection e0
          exact e1.symm
      case round =>
        obtain ⟨j, h2, hj, rfl, HBd, hh2, hsl, hOw, hOff, hbw⟩ := hrel
        obtain ⟨ad, cd, rfl⟩ := HBd.out.sized
        have hml : (DL.take j).length = j := by rw [List.length_take, HDL.out]; omega
        rw [hml] at HBd hOw ⊢
        have HML := Lib.hid hml
        have hIs := HBd.out.1
        have hAl := kA.lt
        have hRl := kR.lt
        have kA2 := hOff.blk kA (by omega)
        have kR2 := hOff.blk kR (by omega)
        have qA2 := kA2.cell
        have lA2 := kA2.lt
        clear qA hml
        by_cases hlj : j < ds.length
        · obtain ⟨d, hd⟩ : ∃ d, ds[j]? = some d := ⟨ds[j], List.getElem?_eq_getElem hlj⟩
          rcases HD.out with ⟨_, _, _, e2⟩ | ⟨db, do_, dc, he, _, _, h4⟩
          · rw [e2] at hd; simp at hd
          obtain ⟨rfl, rfl⟩ : a1 = some ⟨db, do_, none⟩ ∧ c1 = dc := by simpa using he
          obtain ⟨sp, d1, d2, d3, d4, hS⟩ := (h4 j d hd).by hbw
          obtain ⟨ap, cp, rfl⟩ := hS.len
          have HDX := Lib.hid (HDT.out j d hd)
          have j1 : (0 : Int) ≤ (j : Int) := by omega
          have j2 : (j : Int) < (ds.length : Int) := by omega
          clear hd h4 he hS
          go_wp2_with (refine list_pushLG (by rfl) _ _ (by rfl) (N + 1) h2 (.slice ad j cd) (DL.take j) (by rfl) (HBd.out.by blwT) (wr.heap.size + 1 + 1) [d.kind, d.wd, d.len] _ (wr.heap.size + 1) (by rfl) (Blk.new _ (by simp)) (ownR_three ((Blk.new _ (by simp)).past _)) (by omega) (by omega) (by simp) (by rw [HML.out]; omega) ?_; intro a5 c5 w5 hB5 hk5 ho5 hw5; have HB5 := Lib.hid hB5; rw [HML.out]; clear hB5)
          have hsz := hw5.size
          simp only [World.size_alloc] at hsz hk5 ho5
          have hal3 : Below wr.heap.size wr (((wr.alloc (.cells #[.int .i64 d.kind, .slice ap d.pins.length cp, .int .i64 d.wd, .int .i64 d.len] 62)).alloc (.cells #[.int .i64 d.kind, .int .i64 d.wd, .int .i64 d.len] 2)).alloc (.cells #[.slice (some ⟨wr.heap.size + 1, 0, none⟩) 3 3] 27)) := blwT
          refine ⟨⟨j + 1, w5.heap.size, by omega, by go_num, Lib.hid ?_, by omega, by omega, fun g0 e0 => ?_, fun q hq hne => ?_, hw5.below (below_on hal3 hbw) (by omega)⟩, by simp [intOf]; omega⟩
          rotate_left
          · have e1 : a5 = g0 := by injection e0
            subst e1
            rcases ho5 with h | h
            · exact hOw _ h
            · omega
          · refine (hk5 q (by omega) (fun e => by have := hOw q e; omega)).trans ((hal3.block q (by omega)).trans (hOff q hq hne))
          rw [HDX.out]
          have := HB5.out
          rw [HML.out] at this
          exact this
        · obtain rfl : j = ds.length := by omega
          have hLL2 := HBd.out.ll
          rw [List.take_of_length_le (by rw [HDL.out]; exact Nat.le_refl _)] at hLL2
          have HLL2 := Lib.hid hLL2
          have hNL := NetsI.off HNO.out hOff hsl
          have HNL2 := Lib.hid (hNL.ll (by omega))
          have hlsz := hNL
          clear hLL2 HBd hNL hlsz
          go_wp2_with fail
          refine (HR1.out _ _ HNL2.out (.inr ⟨_, _, _, rfl⟩)).mono ?_
          rintro e w6 ⟨v6, rfl, hO6, hb6⟩
          have HO6 := Lib.hid hO6
          obtain ⟨a6, c6, rfl⟩ := hO6.sl.len
          have hs6 := hb6.size
          clear hO6
          go_wp2_with fail
          refine (HR2.out _ _ (HLL2.out.1.by hb6) (HLL2.out.2.imp id (fun ⟨b, c, e⟩ => ⟨b, _, c, e⟩))).mono ?_
          rintro e w7 ⟨v7, rfl, hO7, hb7⟩
          have HO7 := Lib.hid hO7
          obtain ⟨a7, c7, rfl⟩ := hO7.sl.len
          have hs7 := hb7.size
          have kR7 := Blk.by hb7 (Blk.by hb6 kR2)
          have qR := kR7.cell
          have fR := kR7.free
          have lR := kR7.lt
          have hbw7 := below_on hb7 (below_on hb6 hbw)
          clear hO7 qA2
          generalize rankS ((List.range m).map fun j : Nat => portTo ps (j : Int) ps.length) = K1 at *
          generalize rankS DL = K2 at *
          go_wp2
          refine bodyPost_ret (v := .agg #[.slice a6 K1.length c6, .slice a7 K2.length c7]) (by simp [results, Tryz.results131, go_sem, *]) rfl ⟨_, rfl, ?_, blwT⟩
          have hy := HY.out
          rw [← hy]
          refine ⟨_, _, wr.heap.size, w6.heap.size, w6.heap.size, w7.heap.size, rfl, ?_, ?_, ⟨by omega, by simp; omega⟩, ⟨by omega, by simp; try omega⟩, .inl (Nat.le_refl _)⟩
          · exact OwnR.past (Within.off _) (OwnR.past (Within.off _) (OwnR.by hb7 HO6.out) (by omega)) (by omega)
          · exact OwnR.past (Within.off _) (OwnR.past (Within.off _) HO7.out (by omega)) (by omega)
theorem rankS_lt {ls : List (List Int)} {z : Int} (h : z ∈ rankS ls) : 0 ≤ z ∧ z < (ls.length : Int) := by
  obtain ⟨x, hx, rfl⟩ := List.mem_map.1 h
  have hf : x ∈ fsts ls := mem_fsts.2 hx
  have hfl : (fsts ls).length ≤ ls.length := by
    unfold fsts
    rw [List.length_map]
    have := List.length_filter_le (firstAt ls) (List.range ls.length)
    simpa using this
  have hle := List.countP_le_length (p := fun y => decide (lcmp y x < 0)) (l := fsts ls)
  have hne : (fsts ls).countP (fun y => decide (lcmp y x < 0)) ≠ (fsts ls).length := fun e => by
    have := (List.countP_eq_length.1 e) x hf
    simp [lcmp_self] at this
  rw [rankOf_fsts]
  omega
theorem colsB_rank {ls : List (List Int)} {n : Int} (h1 : (ls.length : Int) = n) (h2 : ls.length ≤ 24) : colsB (rankS ls) n = true := by
  simp only [colsB, Bool.and_eq_true, decide_eq_true_eq, List.all_eq_true, length_rankS]
  refine ⟨fun z hz => ?_, h1⟩
  have := rankS_lt hz
  exact inB_iff.2 (by omega)
theorem coB_ref {x : Nl} {c : List Int × List Int} (h : coB x c = true) : coB x (refS x c) = true := by
  obtain ⟨f1, f2, f3, f4⟩ := coB_facts h
  obtain ⟨g1, g2, g3, g4⟩ := coB_nets h
  have hb : nlB x = true := by
    simp only [coB, Bool.and_eq_true] at h
    exact h.1
  simp only [coB, Bool.and_eq_true]
  refine ⟨hb, colsB_rank (by simp; omega) (by simp; omega), colsB_rank (by simp [dsgLs]) (by simp [dsgLs]; omega)⟩
theorem coB_ini {x : Nl} (hb : nlB x = true) : coB x (iniS x) = true := by
  obtain ⟨⟨h0, h1⟩, hd, _⟩ := nlB_facts hb
  simp only [coB, Bool.and_eq_true]
  refine ⟨hb, colsB_rank (by rw [length_netL]; omega) (by rw [length_netL]; omega), colsB_rank (by rw [length_devL]) (by rw [length_devL]; omega)⟩
theorem coB_cnt {x : Nl} {c : List Int × List Int} (h : coB x c = true) : 0 ≤ cntC c ∧ cntC c ≤ 48 := by
  obtain ⟨f1, f2, f3, f4⟩ := coB_facts h
  have h1 := difI_le c.1
  have h2 := difI_le c.2
  unfold cntC
  omega
def refN (x : Nl) : Nat → List Int × List Int → Int → (List Int × List Int) × Int
  | 0, c, s => (c, s)
  | f + 1, c, s => if cntC (refS x c) ≤ cntC c then (c, s) else refN x f (refS x c) (s + 1)
theorem refN_stop {x : Nl} {f : Nat} {c : List Int × List Int} {s : Int} (h : cntC (refS x c) ≤ cntC c) : refN x (f + 1) c s = (c, s) := by
  show (if _ then _ else _) = _
  rw [if_pos h]
theorem refN_go {x : Nl} {f : Nat} {c : List Int × List Int} {s : Int} (h : ¬ cntC (refS x c) ≤ cntC c) : refN x (f + 1) c s = refN x f (refS x c) (s + 1) := by
  show (if _ then _ else _) = _
  rw [if_neg h]
theorem coB_refN {x : Nl} : ∀ (f : Nat) (c : List Int × List Int) (s : Int), coB x c = true → coB x (refN x f c s).1 = true
  | 0, c, s, h => h
  | f + 1, c, s, h => by
    by_cases e : cntC (refS x c) ≤ cntC c
    · rw [refN_stop e]; exact h
    · rw [refN_go e]; exact coB_refN f _ _ (coB_ref h)
def refNet (x : Nl) : (List Int × List Int) × Int := if nlB x = true then refN x 64 (iniS x) 0 else (([], []), -1)
/- RefineNetlist: the program's and the reference's. -/
theorem nl_netsR {x : Nl} (h : nlB x = true) : ∀ p ∈ x.ps, 0 ≤ p.net ∧ p.net < x.nets := by
  intro p hp
  obtain ⟨i, hi, e⟩ := List.mem_iff_getElem.1 hp
  have := (nlB_facts h).2.2.2.2 i hi
  have hg : x.ps[i]? = some p := by rw [List.getElem?_eq_getElem hi, e]
  simp only [ptOk, hg, Bool.and_eq_true] at this
  have h2 := inB_iff.1 this.2.1
  omega
set_option maxRecDepth 100000 in
set_option maxHeartbeats 4000000 in
theorem refined_any (x : Nl) (v : Value) (w : World) (h : NlV w v x) (hb0 : nlB x = true) :
    Calls Tryz.prog 93 #[v] w fun e w' => ∃ v', e = .returned (.tuple #[v', .int .i64 (refN x 64 (iniS x) 0).2]) ∧ OwnPr w' w.heap.size w'.heap.size v' (refN x 64 (iniS x) 0).1 ∧ Below w.heap.size w w' := by
  have HN := Lib.hid h
  obtain ⟨⟨hn0, hn1⟩, hd24, hp8, hdv, _⟩ := nlB_facts hb0
  have hnet := nl_netsR hb0
  obtain ⟨m, hm⟩ : ∃ m : Nat, x.nets = m := ⟨x.nets.toNat, by omega⟩
  have HII := Lib.hid (fun v w h => implIni_any x v m w h hm (by omega) hd24 hp8 hnet)
  have HCI := Lib.hid (coB_ini hb0)
  obtain ⟨RES, hRES⟩ : ∃ RES, refN x 64 (iniS x) 0 = RES := ⟨_, rfl⟩
  rw [hRES]
  have HRN := Lib.hid (show refN x (64 - 0) (iniS x) ((0 : Nat) : Int) = RES from hRES)
  obtain ⟨a, ca, a', ca', rfl⟩ := h.sized
  clear h hb0 hn0 hn1 hd24 hp8 hdv hnet hm hRES
  go_enter Tryz.func93, Tryz.ntmps93
  go_wp2_with fail
  have kA0 : Blk ((w.alloc (.cells #[.int .i64 x.nets, .slice a x.ds.length ca, .slice a' x.ps.length ca'] 35)).alloc (.cells #[.slice none 0 0, .slice none 0 0] 81)) w.heap.size #[.int .i64 x.nets, .slice a x.ds.length ca, .slice a' x.ps.length ca'] 35 := blkT
  have kR0 : Blk ((w.alloc (.cells #[.int .i64 x.nets, .slice a x.ds.length ca, .slice a' x.ps.length ca'] 35)).alloc (.cells #[.slice none 0 0, .slice none 0 0] 81)) (w.heap.size + 1) #[.slice none 0 0, .slice none 0 0] 81 := Blk.new _ (by simp)
  refine (HII.out _ _ (HN.out.by blwT)).mono ?_
  rintro e w1 ⟨v1, rfl, hO1, hb1⟩
  have HO1 := Lib.hid hO1
  obtain ⟨a1, c1, a2, c2, rfl⟩ := hO1.co.sized
  have hs1 := hb1.size
  simp only [World.size_alloc] at hs1 HO1
  have kA := Blk.by hb1 kA0
  have kR := Blk.by hb1 kR0
  have hb := below_on hb1 (below_two w (.cells #[.int .i64 x.nets, .slice a x.ds.length ca, .slice a' x.ps.length ca'] 35) (.cells #[.slice none 0 0, .slice none 0 0] 81))
  have qA := kA.cell
  clear hO1 hb1 kA0 kR0
  go_wp2
  obtain ⟨K, hK⟩ : ∃ K, w1.heap.size = K := ⟨_, rfl⟩
  obtain ⟨wK, hwK⟩ : ∃ z, z = w1.alloc (.cells #[.slice a1 (iniS x).1.length c1, .slice a2 (iniS x).2.length c2] 81) := ⟨_, rfl⟩
  have hal : Below w1.heap.size w1 wK := by rw [hwK]; exact (Below.refl _ w1).alloc (Nat.le_refl _) _
  have kK : Blk wK K #[.slice a1 (iniS x).1.length c1, .slice a2 (iniS x).2.length c2] 81 := by rw [hwK]; exact Blk.new _ hK.symm
  have hsK : wK.heap.size = K + 1 := by rw [hwK]; simp [hK]
  have kAK := Blk.by hal kA
  have kRK := Blk.by hal kR
  have hbK := below_on hal hb
  have HOK := Lib.hid (HO1.out.by hal)
  rw [hK] at HOK
  have lR0 := kR.lt
  have hKw : w.heap.size + 1 < K := by omega
  rw [← hwK]
  (try rw [hK])
  clear hwK hal kA kR hb HO1
  go_loopw [5] (fun s wr => ∃ (c : List Int × List Int) (k lo hi : Nat) (e : Option Addr) (ce : Nat) (e' : Option Addr) (ce' : Nat), s = .int .i64 (k : Int) ∧ k ≤ 63 ∧ Hid (coB x c = true ∧ refN x (64 - k) c (k : Int) = RES ∧ (49 : Int) ≤ ((64 - k : Nat) : Int) + cntC c) ∧ Blk wr K #[.slice e c.1.length ce, .slice e' c.2.length ce'] 81 ∧ Hid (OwnPr wr lo hi (.agg #[.slice e c.1.length ce, .slice e' c.2.length ce']) c) ∧ (w.heap.size + 1 < lo ∧ lo ≤ hi ∧ hi ≤ wr.heap.size ∧ (K < lo ∨ hi ≤ K)) ∧ Blk wr w.heap.size #[.int .i64 x.nets, .slice a x.ds.length ca, .slice a' x.ps.length ca'] 35 ∧ Blk wr (w.heap.size + 1) #[.slice none 0 0, .slice none 0 0] 81 ∧ Below w.heap.size w wr) (fun s _ => 64 - (intOf s).toNat)
  case atStart => exact ⟨iniS x, 0, w.heap.size + 1 + 1, K, a1, c1, a2, c2, rfl, by omega, Lib.hid ⟨HCI.out, HRN.out, by have := (coB_cnt HCI.out).1; omega⟩, kK, HOK, ⟨by omega, by omega, by omega, by omega⟩, kAK, kRK, hbK⟩
  case round =>
    clear kK kAK kRK hbK HOK hsK
    obtain ⟨c, k, lo, hi, e, ce, e', ce', rfl, hk, HF, kK, HO, ⟨hl1, hl2, hl3, hl4⟩, kA, kR, hb⟩ := hrel
    obtain ⟨hcb, hrn, hms⟩ := HF.out
    obtain ⟨f1, f2, f3, f4⟩ := coB_facts hcb
    obtain ⟨g1, g2, g3, g4⟩ := coB_nets hcb
    have hbd := refS_bounds hcb
    have hcr := coB_ref hcb
    have hcn := coB_cnt hcb
    have hcm := coB_cnt hcr
    have HI := Lib.hid (fun v u w h h' => implRefine_any x c c.1.length v u w h h' (by omega) f2 f1 rfl f3 g3 f4 (occs_ok hcb))
    have HCC := Lib.hid (fun u w h => colorCount_any c u w h (by omega) (by omega))
    have HCR := Lib.hid (fun u w h => colorCount_any (refS x c) u w h (by omega) (by omega))
    have HCR2 := Lib.hid hcr
    have qA := kA.cell
    have qK := kK.cell
    have HF1 := Lib.hid (show 64 - (k + 1) = 63 - k by omega)
    have hfs : 64 - k = (63 - k) + 1 := by omega
    rw [hfs] at hrn
    by_cases hle : cntC (refS x c) ≤ cntC c
    · have hd : decide (cntC (refS x c) ≤ cntC c) = true := decide_eq_true hle
      have HRES := Lib.hid (show (c, (k : Int)) = RES by rw [← hrn, refN_stop hle])
      clear hcb hrn f1 f2 f3 f4 g1 g2 g3 g4 hbd hcr HF hfs
      generalize refS x c = RR at *
      generalize cntC RR = K1 at *
      generalize cntC c = K2 at *
      go_wp2_with fail
      refine (HI.out _ _ _ (HN.out.by hb) HO.out.co).mono ?_
      rintro e2 w2 ⟨v2, rfl, hO2, hb2⟩
      have HO2 := Lib.hid hO2
      obtain ⟨b1, d1, b2, d2, rfl⟩ := hO2.co.sized
      have hs2 := hb2.size
      have lK := kK.lt
      have kA2 := Blk.by hb2 kA
      have kK2 := Blk.by hb2 kK
      have kR2 := Blk.by hb2 kR
      have hb2w := below_on hb2 hb
      have HC2 := Lib.hid (HO.out.by hb2)
      have qA2 := kA2.cell
      have qK2 := kK2.cell
      clear hO2 qA qK hb2 kA kK kR HO hb
      go_wp2_with fail
      obtain ⟨D, hD⟩ : ∃ D, w2.heap.size = D := ⟨_, rfl⟩
      obtain ⟨w3, hw3⟩ : ∃ z, z = w2.alloc (.cells #[.slice b1 RR.1.length d1, .slice b2 RR.2.length d2] 81) := ⟨_, rfl⟩
      have hal : Below w2.heap.size w2 w3 := by rw [hw3]; exact (Below.refl _ w2).alloc (Nat.le_refl _) _
      have kD3 : Blk w3 D #[.slice b1 RR.1.length d1, .slice b2 RR.2.length d2] 81 := by rw [hw3]; exact Blk.new _ hD.symm
      have hs3 : w3.heap.size = D + 1 := by rw [hw3]; simp [hD]
      have kA3 := Blk.by hal kA2
      have kK3 := Blk.by hal kK2
      have kR3 := Blk.by hal kR2
      have hb3w := below_on hal hb2w
      have HC3 := Lib.hid ((HC2.out.by hal).co)
      have HR3 := Lib.hid ((HO2.out.by hal).co)
      have HOC := Lib.hid (HC2.out.by hal)
      have HON := Lib.hid (HO2.out.by hal)
      rw [← hw3]
      (try rw [hD])
      (try rw [hD] at HON)
      clear hw3 hal kA2 kK2 kR2 qA2 qK2 hb2w HC2 HO2
      have hsz := hs3
      go_region_held3 ((fun w' => (Blk w' (D) #[.slice b1 RR.1.length d1, .slice b2 RR.2.length d2] 81 ∧ ∀ o, w'.cell? ⟨D, o, none⟩ = (#[.slice b1 RR.1.length d1, .slice b2 RR.2.length d2] : Array Value)[o]?) ∧ (Blk w' (K) #[.slice e c.1.length ce, .slice e' c.2.length ce'] 81 ∧ ∀ o, w'.cell? ⟨K, o, none⟩ = (#[.slice e c.1.length ce, .slice e' c.2.length ce'] : Array Value)[o]?) ∧ Below w.heap.size w w')) (((try (obtain ⟨⟨hS0, _⟩, ⟨hS1, _⟩, hSB⟩ := hHeld)); refine ⟨Blk.both ?_, Blk.both ?_, ?_⟩ <;> first | ((repeat (first | (with_reducible assumption) | (with_reducible refine Blk.drewN ?_ _) | (with_reducible refine Blk.drew ?_) | ((with_reducible refine Blk.new _ ?_); focus (first | omega | (simp; done) | (simp; omega))) | (with_reducible refine Blk.past ?_ _) | ((with_reducible refine Blk.apart ?_ _ _ _ ?_); rotate_left; focus (first | omega | (simp; done) | (simp; omega))) | (with_reducible refine Blk.by (by assumption) ?_))); done) | ((repeat (first | (with_reducible exact Below.refl _ _) | (with_reducible refine below_drewN ?_ _) | (with_reducible refine Below.drew ?_) | (with_reducible refine below_al ?_ _) | (with_reducible refine below_on (by assumption) ?_) | ((with_reducible refine Below.setCell ?_ ?_ _); rotate_left; focus (first | omega | (simp; done) | (simp; omega))) | (with_reducible assumption))); done))) (first | (go_at_call_of 133 (Value.agg #[Value.slice e c.1.length ce, Value.slice e' c.2.length ce']); refine (HCC.out _ _ (HC3.out.by blwT)).mono ?_; rintro e5 w5 ⟨rfl, hb5⟩) | (go_at_call 133; refine (HCR.out _ _ (HR3.out.by blwT)).mono ?_; rintro e4 w4 ⟨rfl, hb4⟩))
      all_goals
        have kR5 : Blk w5 (w.heap.size + 1) #[.slice none 0 0, .slice none 0 0] 81 := blkT
        have kK5 : Blk w5 K #[.slice e c.1.length ce, .slice e' c.2.length ce'] 81 := blkT
        have hW5 : Below w3.heap.size w3 w5 := blwT
        have hbw5 := below_on hW5 hb3w
        have hs5 := hW5.size
        have HOF := Lib.hid (HOC.out.by hW5)
        have qR := kR5.cell
        have fR := kR5.free
        have lR := kR5.lt
        have qK5 := kK5.cell
        clear hb4 hb5
        go_wp2
        refine bodyPost_ret (v := .tuple #[.agg #[.slice e c.1.length ce, .slice e' c.2.length ce'], .int .i64 (k : Int)]) (by simp [results, Tryz.results93, go_sem, *]) rfl ⟨_, by rw [← HRES.out], ?_, blwT⟩
        have hres' := HRES.out
        rw [← hres']
        exact OwnPr.wide (OwnPr.past (Within.off _) (OwnPr.past (Within.off _) HOF.out (by omega)) (by omega)) (by omega) (by simp; omega)
    · have hd : decide (cntC (refS x c) ≤ cntC c) = false := decide_eq_false hle
      have HRES := Lib.hid (show refN x (63 - k) (refS x c) ((k : Int) + 1) = RES by rw [← hrn, refN_go hle])
      clear hcb hrn f1 f2 f3 f4 g1 g2 g3 g4 hbd hcr HF hfs
      generalize refS x c = RR at *
      generalize hK1 : cntC RR = K1 at *
      generalize cntC c = K2 at *
      go_wp2_with fail
      refine (HI.out _ _ _ (HN.out.by hb) HO.out.co).mono ?_
      rintro e2 w2 ⟨v2, rfl, hO2, hb2⟩
      have HO2 := Lib.hid hO2
      obtain ⟨b1, d1, b2, d2, rfl⟩ := hO2.co.sized
      have hs2 := hb2.size
      have lK := kK.lt
      have kA2 := Blk.by hb2 kA
      have kK2 := Blk.by hb2 kK
      have kR2 := Blk.by hb2 kR
      have hb2w := below_on hb2 hb
      have HC2 := Lib.hid (HO.out.by hb2)
      have qA2 := kA2.cell
      have qK2 := kK2.cell
      clear hO2 qA qK hb2 kA kK kR HO hb
      go_wp2_with fail
      obtain ⟨D, hD⟩ : ∃ D, w2.heap.size = D := ⟨_, rfl⟩
      obtain ⟨w3, hw3⟩ : ∃ z, z = w2.alloc (.cells #[.slice b1 RR.1.length d1, .slice b2 RR.2.length d2] 81) := ⟨_, rfl⟩
      have hal : Below w2.heap.size w2 w3 := by rw [hw3]; exact (Below.refl _ w2).alloc (Nat.le_refl _) _
      have kD3 : Blk w3 D #[.slice b1 RR.1.length d1, .slice b2 RR.2.length d2] 81 := by rw [hw3]; exact Blk.new _ hD.symm
      have hs3 : w3.heap.size = D + 1 := by rw [hw3]; simp [hD]
      have kA3 := Blk.by hal kA2
      have kK3 := Blk.by hal kK2
      have kR3 := Blk.by hal kR2
      have hb3w := below_on hal hb2w
      have HC3 := Lib.hid ((HC2.out.by hal).co)
      have HR3 := Lib.hid ((HO2.out.by hal).co)
      have HOC := Lib.hid (HC2.out.by hal)
      have HON := Lib.hid (HO2.out.by hal)
      rw [← hw3]
      (try rw [hD])
      (try rw [hD] at HON)
      clear hw3 hal kA2 kK2 kR2 qA2 qK2 hb2w HC2 HO2
      have hsz := hs3
      go_region_held3 ((fun w' => (Blk w' (D) #[.slice b1 RR.1.length d1, .slice b2 RR.2.length d2] 81 ∧ ∀ o, w'.cell? ⟨D, o, none⟩ = (#[.slice b1 RR.1.length d1, .slice b2 RR.2.length d2] : Array Value)[o]?) ∧ (Blk w' (K) #[.slice e c.1.length ce, .slice e' c.2.length ce'] 81 ∧ ∀ o, w'.cell? ⟨K, o, none⟩ = (#[.slice e c.1.length ce, .slice e' c.2.length ce'] : Array Value)[o]?) ∧ Below w.heap.size w w')) (((try (obtain ⟨⟨hS0, _⟩, ⟨hS1, _⟩, hSB⟩ := hHeld)); refine ⟨Blk.both ?_, Blk.both ?_, ?_⟩ <;> first | ((repeat (first | (with_reducible assumption) | (with_reducible refine Blk.drewN ?_ _) | (with_reducible refine Blk.drew ?_) | ((with_reducible refine Blk.new _ ?_); focus (first | omega | (simp; done) | (simp; omega))) | (with_reducible refine Blk.past ?_ _) | ((with_reducible refine Blk.apart ?_ _ _ _ ?_); rotate_left; focus (first | omega | (simp; done) | (simp; omega))) | (with_reducible refine Blk.by (by assumption) ?_))); done) | ((repeat (first | (with_reducible exact Below.refl _ _) | (with_reducible refine below_drewN ?_ _) | (with_reducible refine Below.drew ?_) | (with_reducible refine below_al ?_ _) | (with_reducible refine below_on (by assumption) ?_) | ((with_reducible refine Below.setCell ?_ ?_ _); rotate_left; focus (first | omega | (simp; done) | (simp; omega))) | (with_reducible assumption))); done))) (first | (go_at_call_of 133 (Value.agg #[Value.slice e c.1.length ce, Value.slice e' c.2.length ce']); refine (HCC.out _ _ (HC3.out.by blwT)).mono ?_; rintro e5 w5 ⟨rfl, hb5⟩) | (go_at_call 133; refine (HCR.out _ _ (HR3.out.by blwT)).mono ?_; rintro e4 w4 ⟨rfl, hb4⟩))
      all_goals
        have kA5 : Blk w5 w.heap.size #[.int .i64 x.nets, .slice a x.ds.length ca, .slice a' x.ps.length ca'] 35 := blkT
        have kR5 : Blk w5 (w.heap.size + 1) #[.slice none 0 0, .slice none 0 0] 81 := blkT
        have kK5 : Blk w5 K #[.slice e c.1.length ce, .slice e' c.2.length ce'] 81 := blkT
        have kD5 : Blk w5 D #[.slice b1 RR.1.length d1, .slice b2 RR.2.length d2] 81 := blkT
        have hW5 : Below w3.heap.size w3 w5 := blwT
        have hbw5 := below_on hW5 hb3w
        have hs5 := hW5.size
        have HOF := Lib.hid (HON.out.by hW5)
        have qD := kD5.cell
        have qK5 := kK5.cell
        have fK := kK5.free
        have lK5 := kK5.lt
        have hKA : w.heap.size + 1 < K := hKw
        clear hb4 hb5
        go_wp2
        refine ⟨⟨RR, k + 1, wr.heap.size, D, b1, d1, b2, d2, by go_num, by omega, Lib.hid ⟨HCR2.out, ?_, ?_⟩, kK5.set2, Lib.hid (OwnPr.past (Within.off _) (OwnPr.past (Within.off _) HOF.out (.inr (by omega))) (.inr (by omega))), ⟨by omega, by omega, by simp; omega, by omega⟩, (kA5.apart K _ _ (by omega)).apart K _ _ (by omega), (kR5.apart K _ _ (by omega)).apart K _ _ (by omega), (hbw5.setCell (by simp; omega) _).setCell (by simp; omega) _⟩, by simp [intOf]; omega⟩
        · rw [HF1.out]
          have := HRES.out
          rw [show ((k + 1 : Nat) : Int) = (k : Int) + 1 by omega]
          exact this
        · omega
set_option maxRecDepth 100000 in
set_option maxHeartbeats 4000000 in
theorem specRefNet_any (x : Nl) (v : Value) (w : World) (h : NlV w v x) (hok : ∀ p ∈ x.ps, p.ok) (hnn : Fits x.nets) :
    Calls Tryz.prog 53 #[v] w fun e w' => ∃ v', e = .returned (.tuple #[v', .int .i64 (refNet x).2]) ∧ OwnPr w' w.heap.size w'.heap.size v' (refNet x).1 ∧ Below w.heap.size w w' := by
  have HV := Lib.hid (fun v w h => specNl_any x v w h hok hnn)
  have HN := Lib.hid h
  obtain ⟨RES, hY⟩ : ∃ Y, refNet x = Y := ⟨_, rfl⟩
  rw [hY]
  unfold refNet at hY
  obtain ⟨a, ca, a', ca', rfl⟩ := h.sized
  cases hb0 : nlB x with
  | false =>
    rw [hb0] at HV hY
    have HY := Lib.hid (show (([], []), -1) = RES by simpa using hY)
    clear h hok hnn hb0 hY
    go_enter Tryz.func53, Tryz.ntmps53
    go_wp2_with fail
    refine (HV.out _ _ (HN.out.by blwT)).mono ?_
    rintro e w1 ⟨rfl, hb1⟩
    have kR : Blk w1 (w.heap.size + 1) #[.slice none 0 0, .slice none 0 0] 81 := blkT
    have hW : Below w.heap.size w w1 := blwT
    have qR := kR.cell
    have fR := kR.free
    have lR := kR.lt
    clear hb1
    go_wp2
    refine bodyPost_ret (v := .tuple #[.agg #[.slice none 0 0, .slice none 0 0], .int .i64 (-1)]) (by simp [results, Tryz.results53, go_sem, *]) rfl ⟨_, by rw [← HY.out], ?_, blwT⟩
    rw [← HY.out]
    exact ⟨_, _, w.heap.size, w.heap.size, w.heap.size, w.heap.size, rfl, .inl ⟨_, _, rfl, rfl⟩, .inl ⟨_, _, rfl, rfl⟩, by (refine ⟨?_, ?_⟩ <;> simp; try omega), by (refine ⟨?_, ?_⟩ <;> simp; try omega), .inl (Nat.le_refl _)⟩
  | true =>
    obtain ⟨⟨hn0, hn1⟩, hd24, hp8, hdv, _⟩ := nlB_facts hb0
    obtain ⟨m, hm⟩ : ∃ m : Nat, x.nets = m := ⟨x.nets.toNat, by omega⟩
    have HII := Lib.hid (fun v w h => specIni_any x v m w h hm (by omega) hd24 hp8)
    have HCI := Lib.hid (coB_ini hb0)
    rw [hb0] at HV hY
    have hY' : refN x 64 (iniS x) 0 = RES := by simpa using hY
    have HRN := Lib.hid (show refN x (64 - 0) (iniS x) ((0 : Nat) : Int) = RES from hY')
    clear h hok hnn hb0 hY hY' hn0 hn1 hd24 hp8 hdv hm
    go_enter Tryz.func53, Tryz.ntmps53
    go_wp2_with fail
    refine (HV.out _ _ (HN.out.by blwT)).mono ?_
    rintro e w0 ⟨rfl, hb1⟩
    have kA0 : Blk w0 w.heap.size #[.int .i64 x.nets, .slice a x.ds.length ca, .slice a' x.ps.length ca'] 35 := blkT
    have kR0 : Blk w0 (w.heap.size + 1) #[.slice none 0 0, .slice none 0 0] 81 := blkT
    have hW0 : Below w.heap.size w w0 := blwT
    have qA0 := kA0.cell
    clear hb1
    go_wp2_with fail
    refine (HII.out _ _ (HN.out.by hW0)).mono ?_
    rintro e w1 ⟨v1, rfl, hO1, hb1⟩
    have HO1 := Lib.hid hO1
    obtain ⟨a1, c1, a2, c2, rfl⟩ := hO1.co.sized
    have hs1 := hb1.size
    have lR00 := kR0.lt
    have kA := Blk.by hb1 kA0
    have kR := Blk.by hb1 kR0
    have hb := below_on hb1 hW0
    have qA := kA.cell
    clear hO1 hb1 kA0 kR0 hW0 qA0
    go_wp2
    obtain ⟨K, hK⟩ : ∃ K, w1.heap.size = K := ⟨_, rfl⟩
    obtain ⟨wK, hwK⟩ : ∃ z, z = w1.alloc (.cells #[.slice a1 (iniS x).1.length c1, .slice a2 (iniS x).2.length c2] 81) := ⟨_, rfl⟩
    have hal : Below w1.heap.size w1 wK := by rw [hwK]; exact (Below.refl _ w1).alloc (Nat.le_refl _) _
    have kK : Blk wK K #[.slice a1 (iniS x).1.length c1, .slice a2 (iniS x).2.length c2] 81 := by rw [hwK]; exact Blk.new _ hK.symm
    have hsK : wK.heap.size = K + 1 := by rw [hwK]; simp [hK]
    have kAK := Blk.by hal kA
    have kRK := Blk.by hal kR
    have hbK := below_on hal hb
    have HOK := Lib.hid (HO1.out.by hal)
    rw [hK] at HOK
    have lR0 := kR.lt
    have hKw : w.heap.size + 1 < K := by omega
    rw [← hwK]
    (try rw [hK])
    clear hwK hal kA kR hb HO1
    go_loopw [5] (fun s wr => ∃ (c : List Int × List Int) (k lo hi : Nat) (e : Option Addr) (ce : Nat) (e' : Option Addr) (ce' : Nat), s = .int .i64 (k : Int) ∧ k ≤ 63 ∧ Hid (coB x c = true ∧ refN x (64 - k) c (k : Int) = RES ∧ (49 : Int) ≤ ((64 - k : Nat) : Int) + cntC c) ∧ Blk wr K #[.slice e c.1.length ce, .slice e' c.2.length ce'] 81 ∧ Hid (OwnPr wr lo hi (.agg #[.slice e c.1.length ce, .slice e' c.2.length ce']) c) ∧ (w.heap.size + 1 < lo ∧ lo ≤ hi ∧ hi ≤ wr.heap.size ∧ (K < lo ∨ hi ≤ K)) ∧ Blk wr w.heap.size #[.int .i64 x.nets, .slice a x.ds.length ca, .slice a' x.ps.length ca'] 35 ∧ Blk wr (w.heap.size + 1) #[.slice none 0 0, .slice none 0 0] 81 ∧ Below w.heap.size w wr) (fun s _ => 64 - (intOf s).toNat)
    case atStart => exact ⟨iniS x, 0, w0.heap.size, K, a1, c1, a2, c2, rfl, by omega, Lib.hid ⟨HCI.out, HRN.out, by have := (coB_cnt HCI.out).1; omega⟩, kK, HOK, ⟨by omega, by omega, by omega, by omega⟩, kAK, kRK, hbK⟩
    case round =>
      clear kK kAK kRK hbK HOK hsK
      obtain ⟨c, k, lo, hi, e, ce, e', ce', rfl, hk, HF, kK, HO, ⟨hl1, hl2, hl3, hl4⟩, kA, kR, hb⟩ := hrel
      obtain ⟨hcb, hrn, hms⟩ := HF.out
      obtain ⟨f1, f2, f3, f4⟩ := coB_facts hcb
      obtain ⟨g1, g2, g3, g4⟩ := coB_nets hcb
      have hbd := refS_bounds hcb
      have hcr := coB_ref hcb
      have hcn := coB_cnt hcb
      have hcm := coB_cnt hcr
      have HI := Lib.hid (fun v u w h h' => specStep_any x c c.1.length v u w h h' (by omega) f2 f1 rfl f3 g3 f4 (occs_ok hcb))
      have HCC := Lib.hid (fun u w h => l29Count_any c u w h (by omega) (by omega))
      have HCR := Lib.hid (fun u w h => l29Count_any (refS x c) u w h (by omega) (by omega))
      have HCR2 := Lib.hid hcr
      have qA := kA.cell
      have qK := kK.cell
      have HF1 := Lib.hid (show 64 - (k + 1) = 63 - k by omega)
      have hfs : 64 - k = (63 - k) + 1 := by omega
      rw [hfs] at hrn
      by_cases hle : cntC (refS x c) ≤ cntC c
      · have hd : decide (cntC (refS x c) ≤ cntC c) = true := decide_eq_true hle
        have HRES := Lib.hid (show (c, (k : Int)) = RES by rw [← hrn, refN_stop hle])
        clear hcb hrn f1 f2 f3 f4 g1 g2 g3 g4 hbd hcr HF hfs
        generalize refS x c = RR at *
        generalize cntC RR = K1 at *
        generalize cntC c = K2 at *
        go_wp2_with fail
        refine (HI.out _ _ _ (HN.out.by hb) HO.out.co).mono ?_
        rintro e2 w2 ⟨v2, rfl, hO2, hb2⟩
        have HO2 := Lib.hid hO2
        obtain ⟨b1, d1, b2, d2, rfl⟩ := hO2.co.sized
        have hs2 := hb2.size
        have lK := kK.lt
        have kA2 := Blk.by hb2 kA
        have kK2 := Blk.by hb2 kK
        have kR2 := Blk.by hb2 kR
        have hb2w := below_on hb2 hb
        have HC2 := Lib.hid (HO.out.by hb2)
        have qA2 := kA2.cell
        have qK2 := kK2.cell
        clear hO2 qA qK hb2 kA kK kR HO hb
        go_wp2_with fail
        obtain ⟨D, hD⟩ : ∃ D, w2.heap.size = D := ⟨_, rfl⟩
        obtain ⟨w3, hw3⟩ : ∃ z, z = w2.alloc (.cells #[.slice b1 RR.1.length d1, .slice b2 RR.2.length d2] 81) := ⟨_, rfl⟩
        have hal : Below w2.heap.size w2 w3 := by rw [hw3]; exact (Below.refl _ w2).alloc (Nat.le_refl _) _
        have kD3 : Blk w3 D #[.slice b1 RR.1.length d1, .slice b2 RR.2.length d2] 81 := by rw [hw3]; exact Blk.new _ hD.symm
        have hs3 : w3.heap.size = D + 1 := by rw [hw3]; simp [hD]
        have kA3 := Blk.by hal kA2
        have kK3 := Blk.by hal kK2
        have kR3 := Blk.by hal kR2
        have hb3w := below_on hal hb2w
        have HC3 := Lib.hid ((HC2.out.by hal).co)
        have HR3 := Lib.hid ((HO2.out.by hal).co)
        have HOC := Lib.hid (HC2.out.by hal)
        have HON := Lib.hid (HO2.out.by hal)
        rw [← hw3]
        (try rw [hD])
        (try rw [hD] at HON)
        clear hw3 hal kA2 kK2 kR2 qA2 qK2 hb2w HC2 HO2
        have hsz := hs3
        go_region_held3 ((fun w' => (Blk w' (D) #[.slice b1 RR.1.length d1, .slice b2 RR.2.length d2] 81 ∧ ∀ o, w'.cell? ⟨D, o, none⟩ = (#[.slice b1 RR.1.length d1, .slice b2 RR.2.length d2] : Array Value)[o]?) ∧ (Blk w' (K) #[.slice e c.1.length ce, .slice e' c.2.length ce'] 81 ∧ ∀ o, w'.cell? ⟨K, o, none⟩ = (#[.slice e c.1.length ce, .slice e' c.2.length ce'] : Array Value)[o]?) ∧ Below w.heap.size w w')) (((try (obtain ⟨⟨hS0, _⟩, ⟨hS1, _⟩, hSB⟩ := hHeld)); refine ⟨Blk.both ?_, Blk.both ?_, ?_⟩ <;> first | ((repeat (first | (with_reducible assumption) | (with_reducible refine Blk.drewN ?_ _) | (with_reducible refine Blk.drew ?_) | ((with_reducible refine Blk.new _ ?_); focus (first | omega | (simp; done) | (simp; omega))) | (with_reducible refine Blk.past ?_ _) | ((with_reducible refine Blk.apart ?_ _ _ _ ?_); rotate_left; focus (first | omega | (simp; done) | (simp; omega))) | (with_reducible refine Blk.by (by assumption) ?_))); done) | ((repeat (first | (with_reducible exact Below.refl _ _) | (with_reducible refine below_drewN ?_ _) | (with_reducible refine Below.drew ?_) | (with_reducible refine below_al ?_ _) | (with_reducible refine below_on (by assumption) ?_) | ((with_reducible refine Below.setCell ?_ ?_ _); rotate_left; focus (first | omega | (simp; done) | (simp; omega))) | (with_reducible assumption))); done))) (first | (go_at_call_of 101 (Value.agg #[Value.slice e c.1.length ce, Value.slice e' c.2.length ce']); refine (HCC.out _ _ (HC3.out.by blwT)).mono ?_; rintro e5 w5 ⟨rfl, hb5⟩) | (go_at_call 101; refine (HCR.out _ _ (HR3.out.by blwT)).mono ?_; rintro e4 w4 ⟨rfl, hb4⟩))
        all_goals
          have kR5 : Blk w5 (w.heap.size + 1) #[.slice none 0 0, .slice none 0 0] 81 := blkT
          have kK5 : Blk w5 K #[.slice e c.1.length ce, .slice e' c.2.length ce'] 81 := blkT
          have hW5 : Below w3.heap.size w3 w5 := blwT
          have hbw5 := below_on hW5 hb3w
          have hs5 := hW5.size
          have HOF := Lib.hid (HOC.out.by hW5)
          have qR := kR5.cell
          have fR := kR5.free
          have lR := kR5.lt
          have qK5 := kK5.cell
          clear hb4 hb5
          go_wp2
          refine bodyPost_ret (v := .tuple #[.agg #[.slice e c.1.length ce, .slice e' c.2.length ce'], .int .i64 (k : Int)]) (by simp [results, Tryz.results53, go_sem, *]) rfl ⟨_, by rw [← HRES.out], ?_, blwT⟩
          have hres' := HRES.out
          rw [← hres']
          exact OwnPr.wide (OwnPr.past (Within.off _) (OwnPr.past (Within.off _) HOF.out (by omega)) (by omega)) (by omega) (by simp; omega)
      · have hd : decide (cntC (refS x c) ≤ cntC c) = false := decide_eq_false hle
        have HRES := Lib.hid (show refN x (63 - k) (refS x c) ((k : Int) + 1) = RES by rw [← hrn, refN_go hle])
        clear hcb hrn f1 f2 f3 f4 g1 g2 g3 g4 hbd hcr HF hfs
        generalize refS x c = RR at *
        generalize hK1 : cntC RR = K1 at *
        generalize cntC c = K2 at *
        go_wp2_with fail
        refine (HI.out _ _ _ (HN.out.by hb) HO.out.co).mono ?_
        rintro e2 w2 ⟨v2, rfl, hO2, hb2⟩
        have HO2 := Lib.hid hO2
        obtain ⟨b1, d1, b2, d2, rfl⟩ := hO2.co.sized
        have hs2 := hb2.size
        have lK := kK.lt
        have kA2 := Blk.by hb2 kA
        have kK2 := Blk.by hb2 kK
        have kR2 := Blk.by hb2 kR
        have hb2w := below_on hb2 hb
        have HC2 := Lib.hid (HO.out.by hb2)
        have qA2 := kA2.cell
        have qK2 := kK2.cell
        clear hO2 qA qK hb2 kA kK kR HO hb
        go_wp2_with fail
        obtain ⟨D, hD⟩ : ∃ D, w2.heap.size = D := ⟨_, rfl⟩
        obtain ⟨w3, hw3⟩ : ∃ z, z = w2.alloc (.cells #[.slice b1 RR.1.length d1, .slice b2 RR.2.length d2] 81) := ⟨_, rfl⟩
        have hal : Below w2.heap.size w2 w3 := by rw [hw3]; exact (Below.refl _ w2).alloc (Nat.le_refl _) _
        have kD3 : Blk w3 D #[.slice b1 RR.1.length d1, .slice b2 RR.2.length d2] 81 := by rw [hw3]; exact Blk.new _ hD.symm
        have hs3 : w3.heap.size = D + 1 := by rw [hw3]; simp [hD]
        have kA3 := Blk.by hal kA2
        have kK3 := Blk.by hal kK2
        have kR3 := Blk.by hal kR2
        have hb3w := below_on hal hb2w
        have HC3 := Lib.hid ((HC2.out.by hal).co)
        have HR3 := Lib.hid ((HO2.out.by hal).co)
        have HOC := Lib.hid (HC2.out.by hal)
        have HON := Lib.hid (HO2.out.by hal)
        rw [← hw3]
        (try rw [hD])
        (try rw [hD] at HON)
        clear hw3 hal kA2 kK2 kR2 qA2 qK2 hb2w HC2 HO2
        have hsz := hs3
        go_region_held3 ((fun w' => (Blk w' (D) #[.slice b1 RR.1.length d1, .slice b2 RR.2.length d2] 81 ∧ ∀ o, w'.cell? ⟨D, o, none⟩ = (#[.slice b1 RR.1.length d1, .slice b2 RR.2.length d2] : Array Value)[o]?) ∧ (Blk w' (K) #[.slice e c.1.length ce, .slice e' c.2.length ce'] 81 ∧ ∀ o, w'.cell? ⟨K, o, none⟩ = (#[.slice e c.1.length ce, .slice e' c.2.length ce'] : Array Value)[o]?) ∧ Below w.heap.size w w')) (((try (obtain ⟨⟨hS0, _⟩, ⟨hS1, _⟩, hSB⟩ := hHeld)); refine ⟨Blk.both ?_, Blk.both ?_, ?_⟩ <;> first | ((repeat (first | (with_reducible assumption) | (with_reducible refine Blk.drewN ?_ _) | (with_reducible refine Blk.drew ?_) | ((with_reducible refine Blk.new _ ?_); focus (first | omega | (simp; done) | (simp; omega))) | (with_reducible refine Blk.past ?_ _) | ((with_reducible refine Blk.apart ?_ _ _ _ ?_); rotate_left; focus (first | omega | (simp; done) | (simp; omega))) | (with_reducible refine Blk.by (by assumption) ?_))); done) | ((repeat (first | (with_reducible exact Below.refl _ _) | (with_reducible refine below_drewN ?_ _) | (with_reducible refine Below.drew ?_) | (with_reducible refine below_al ?_ _) | (with_reducible refine below_on (by assumption) ?_) | ((with_reducible refine Below.setCell ?_ ?_ _); rotate_left; focus (first | omega | (simp; done) | (simp; omega))) | (with_reducible assumption))); done))) (first | (go_at_call_of 101 (Value.agg #[Value.slice e c.1.length ce, Value.slice e' c.2.length ce']); refine (HCC.out _ _ (HC3.out.by blwT)).mono ?_; rintro e5 w5 ⟨rfl, hb5⟩) | (go_at_call 101; refine (HCR.out _ _ (HR3.out.by blwT)).mono ?_; rintro e4 w4 ⟨rfl, hb4⟩))
        all_goals
          have kA5 : Blk w5 w.heap.size #[.int .i64 x.nets, .slice a x.ds.length ca, .slice a' x.ps.length ca'] 35 := blkT
          have kR5 : Blk w5 (w.heap.size + 1) #[.slice none 0 0, .slice none 0 0] 81 := blkT
          have kK5 : Blk w5 K #[.slice e c.1.length ce, .slice e' c.2.length ce'] 81 := blkT
          have kD5 : Blk w5 D #[.slice b1 RR.1.length d1, .slice b2 RR.2.length d2] 81 := blkT
          have hW5 : Below w3.heap.size w3 w5 := blwT
          have hbw5 := below_on hW5 hb3w
          have hs5 := hW5.size
          have HOF := Lib.hid (HON.out.by hW5)
          have qD := kD5.cell
          have qK5 := kK5.cell
          have fK := kK5.free
          have lK5 := kK5.lt
          have hKA : w.heap.size + 1 < K := hKw
          clear hb4 hb5
          go_wp2
          refine ⟨⟨RR, k + 1, wr.heap.size, D, b1, d1, b2, d2, by go_num, by omega, Lib.hid ⟨HCR2.out, ?_, ?_⟩, kK5.set2, Lib.hid (OwnPr.past (Within.off _) (OwnPr.past (Within.off _) HOF.out (.inr (by omega))) (.inr (by omega))), ⟨by omega, by omega, by simp; omega, by omega⟩, (kA5.apart K _ _ (by omega)).apart K _ _ (by omega), (kR5.apart K _ _ (by omega)).apart K _ _ (by omega), (hbw5.setCell (by simp; omega) _).setCell (by simp; omega) _⟩, by simp [intOf]; omega⟩
          · rw [HF1.out]
            have := HRES.out
            rw [show ((k + 1 : Nat) : Int) = (k : Int) + 1 by omega]
            exact this
          · omega
/- ApplyMatching: what it answers; devices of the call's own, at fixed blocks. -/
def DsAt (w : World) (lo hi : Nat) (sv : Value) (ds : List Dv) (f : Nat → Nat) (pv : Nat → Value) : Prop := ∀ (i : Nat) (x : Dv), ds[i]? = some x →
  (∃ g cap cs, sv = .slice (some ⟨g, 0, none⟩) ds.length cap ∧ (lo ≤ g ∧ g < hi) ∧ Blk w g cs 62 ∧ Cs4 cs i (.int .i64 x.kind) (pv i) (.int .i64 x.wd) (.int .i64 x.len)) ∧ OwnR w (f i) (f i + 1) (pv i) x.pins ∧ lo ≤ f i ∧ f i < hi
theorem DsAt.by {w w' : World} {lo hi : Nat} {sv : Value} {ds : List Dv} {f : Nat → Nat} {pv : Nat → Value} (hb : Below w.heap.size w w') (h : DsAt w lo hi sv ds f pv) : DsAt w' lo hi sv ds f pv := by
  intro i x hx
  obtain ⟨⟨g, cap, cs, h1, h2, h3, h4⟩, h5, h6⟩ := h i x hx
  exact ⟨⟨g, cap, cs, h1, h2, Blk.by hb h3, h4⟩, OwnR.by hb h5, h6⟩
theorem DsAt.past {w w' : World} {lo hi lo' hi' : Nat} {sv : Value} {ds : List Dv} {f : Nat → Nat} {pv : Nat → Value} (hb : Within lo' hi' w w') (h : DsAt w lo hi sv ds f pv) (hd : hi ≤ lo' ∨ hi' ≤ lo) : DsAt w' lo hi sv ds f pv := by
  intro i x hx
  obtain ⟨⟨g, cap, cs, h1, h2, h3, h4⟩, h5, h6⟩ := h i x hx
  exact ⟨⟨g, cap, cs, h1, h2, hb.blk h3 (by omega), h4⟩, OwnR.past hb h5 (by omega), h6⟩
theorem OwnDs.at {w : World} {lo hi : Nat} {sv : Value} {ds : List Dv} (h : OwnDs w lo hi sv ds) : ∃ f pv, DsAt w lo hi sv ds f pv ∧ ∀ i j, i < ds.length → j < ds.length → i ≠ j → f i ≠ f j := by
  rcases h with ⟨a, c, h1, h2⟩ | ⟨g, cap, cs, f, h1, h2, h3, h4, h5, h6, h7⟩
  · refine ⟨fun _ => 0, fun _ => .int .i64 0, fun i x hx => ?_, fun i j hi => ?_⟩
    · rw [h2] at hx; simp at hx
    · rw [h2] at hi; simp at hi
  · refine ⟨f, fun i => cs.getD (i * 4 + 1) (.int .i64 0), fun i x hx => ?_, h7⟩
    obtain ⟨⟨pv, hC, hR⟩, hf⟩ := h6 i x hx
    have e : cs.getD (i * 4 + 1) (.int .i64 0) = pv := by rw [Array.getD_eq_getD_getElem?, hC.2.1]; rfl
    dsimp only
    rw [e]
    exact ⟨⟨g, cap, cs, h1, h2, h5, hC⟩, hR, hf.1, hf.2.1⟩
theorem OwnPs.pick {w : World} {lo hi : Nat} {sv : Value} {ps : List Pt} (h : OwnPs w lo hi sv ps) (r : Nat) : ∃ P, OwnPs w P (P + 1) sv ps ∧ (P = r ∨ lo ≤ P ∧ P < hi) := by
  rcases h with h | ⟨g, cap, cs, h1, h2, h3, h4, h5, h6⟩
  · exact ⟨r, .inl h, .inl rfl⟩
  · exact ⟨g, .inr ⟨g, cap, cs, h1, by omega, h3, h4, h5, h6⟩, .inr h2⟩
theorem OwnR.one {w : World} {lo hi : Nat} {sv : Value} {zs : List Int} (h : OwnR w lo hi sv zs) : sv.oneCell' = true := by
  rcases h with ⟨_, _, rfl, _⟩ | ⟨_, _, _, rfl, _⟩ <;> rfl
theorem nmP {zs : List Int} {n : Int} (hp : permB zs n = true) {i : Int} (h0 : 0 ≤ i) (h1 : i < n) : zs[i.toNat]? = some (nmOf zs i) ∧ 0 ≤ nmOf zs i ∧ nmOf zs i < n := by
  obtain ⟨a1, a2, a3⟩ := permB_iff.1 hp
  have e : zs[i.toNat]? = some (zs[i.toNat]'(by omega)) := List.getElem?_eq_getElem (by omega)
  have e2 : nmOf zs i = zs[i.toNat]'(by omega) := by unfold nmOf; rw [List.getD_eq_getElem?_getD, e]; rfl
  rw [e2]
  exact ⟨e, a3 _ (List.getElem_mem _)⟩
theorem nmP_inj {zs : List Int} {n : Int} (hp : permB zs n = true) {i j : Int} (hi : 0 ≤ i ∧ i < n) (hj : 0 ≤ j ∧ j < n) (h : nmOf zs i = nmOf zs j) : i = j := by
  have a := (nmP hp hi.1 hi.2).1
  have b := (nmP hp hj.1 hj.2).1
  rw [h] at a
  rcases Nat.lt_trichotomy i.toNat j.toNat with q | q | q
  · have := permB_dup (n := n) q a b; rw [hp] at this; cases this
  · omega
  · have := permB_dup (n := n) q b a; rw [hp] at this; cases this
theorem nmP_onto {zs : List Int} {n : Int} (hp : permB zs n = true) {k : Int} (h0 : 0 ≤ k) (h1 : k < n) : ∃ i : Nat, (i : Int) < n ∧ nmOf zs i = k := by
  obtain ⟨i, hi⟩ := permB_has hp k h0 h1
  have hl := (List.getElem?_eq_some_iff.1 hi).1
  have := (permB_iff.1 hp).1
  exact ⟨i, by omega, by unfold nmOf; rw [Int.toNat_natCast, List.getD_eq_getElem?_getD, hi]; rfl⟩
theorem coB_lens {x : Nl} {c : List Int × List Int} (h : coB x c = true) : (c.1.length : Int) = x.nets ∧ c.2.length = x.ds.length ∧ 0 ≤ x.nets ∧ x.nets ≤ 24 := by
  obtain ⟨h1, h2, _⟩ := coB_nets h
  obtain ⟨_, _, h3, _⟩ := coB_facts h
  exact ⟨h1, h3, h2.1, h2.2⟩
theorem rankOf_mem {ls ls' : List (List Int)} (h : ∀ z, z ∈ ls ↔ z ∈ ls') (x : List Int) : rankOf ls x = rankOf ls' x := by
  rw [rankOf_fsts, rankOf_fsts]
  exact (perm_of_mem _ _ (nodup_fsts ls) (nodup_fsts ls') (fun z => by rw [mem_fsts, mem_fsts]; exact h z)).countP_eq _
theorem nm_range {f : Nat → Int} {n i : Nat} (h : i < n) : nmOf ((List.range n).map f) (i : Int) = f i := by
  unfold nmOf; rw [Int.toNat_natCast]; simp [List.getD_eq_getElem?_getD, h]
theorem rank_eqv {zs : List Int} {n : Nat} (hp : permB zs (n : Int) = true) (kx ky : Nat → List Int) (h : ∀ i, i < n → kx i = ky (nmOf zs (i : Int)).toNat) (i : Nat) (hi : i < n) :
    nmOf (rankS ((List.range n).map kx)) (i : Int) = nmOf (rankS ((List.range n).map ky)) (nmOf zs (i : Int)) := by
  have hm : ∀ z, z ∈ (List.range n).map kx ↔ z ∈ (List.range n).map ky := by
    intro z
    simp only [List.mem_map, List.mem_range]
    constructor
    · rintro ⟨j, hj, rfl⟩
      have := (nmP hp (i := (j : Int)) (by omega) (by omega)).2
      exact ⟨(nmOf zs (j : Int)).toNat, by omega, (h j hj).symm⟩
    · rintro ⟨j, hj, rfl⟩
      obtain ⟨k, hk, e⟩ := nmP_onto hp (k := (j : Int)) (by omega) (by omega)
      exact ⟨k, by omega, by rw [h k (by omega), e]; rfl⟩
  have hz := (nmP hp (i := (i : Int)) (by omega) (by omega)).2
  obtain ⟨z, hze⟩ : ∃ z : Nat, nmOf zs (i : Int) = (z : Int) := ⟨(nmOf zs (i : Int)).toNat, by omega⟩
  have hi2 := h i hi
  rw [hze] at hi2 hz ⊢
  rw [Int.toNat_natCast] at hi2
  unfold rankS
  rw [List.map_map, List.map_map, nm_range hi, nm_range (by omega)]
  show ((rankOf _ (kx i) : Nat) : Int) = ((rankOf _ (ky z) : Nat) : Int)
  rw [hi2, rankOf_mem hm]
def rep (l : List Int) (k : Nat) : List Int := (List.replicate k l).flatten
theorem rep_add (l : List Int) (a b : Nat) : rep l (a + b) = rep l a ++ rep l b := by
  unfold rep; rw [← List.replicate_append_replicate, List.flatten_append]
def sumN (h : Nat → Nat) : Nat → Nat
  | 0 => 0
  | k + 1 => sumN h k + h k
theorem flat_rep (l : List Int) (h : Nat → Nat) (n : Nat) : (List.range n).flatMap (fun j => rep l (h j)) = rep l (sumN h n) := by
  induction n with
  | zero => rfl
  | succ n ih => rw [flat_succ, ih]; exact (rep_add _ _ _).symm
theorem sumN_list (h : Nat → Nat) (n : Nat) : sumN h n = ((List.range n).map h).sum := by
  induction n with
  | zero => rfl
  | succ n ih => rw [List.range_succ, List.map_append, List.sum_append, ← ih]; simp [sumN]
theorem sumN_congr {h g : Nat → Nat} {n : Nat} (e : ∀ j, j < n → h j = g j) : sumN h n = sumN g n := by
  induction n with
  | zero => rfl
  | succ n ih => show _ + _ = _ + _; rw [ih (fun j hj => e j (by omega)), e n (by omega)]
theorem sumN_perm {zs : List Int} {n : Nat} (hp : permB zs (n : Int) = true) (g : Nat → Nat) : sumN (fun j => g (nmOf zs (j : Int)).toNat) n = sumN g n := by
  have hl := (permB_iff.1 hp).1
  rw [sumN_list, sumN_list]
  have e1 : (List.range n).map (fun j : Nat => g (nmOf zs (j : Int)).toNat) = zs.map (fun z => g z.toNat) := by
    apply List.ext_getElem?
    intro j
    rw [List.getElem?_map, List.getElem?_map]
    by_cases hj : j < n
    · rw [List.getElem?_range hj]
      have := (nmP hp (i := (j : Int)) (by omega) (by omega)).1
      rw [Int.toNat_natCast] at this
      rw [this]; rfl
    · rw [List.getElem?_eq_none (by simp; omega), List.getElem?_eq_none (by omega)]; rfl
  have e2 : (List.range n).map g = (iota n).map (fun z => g z.toNat) := by
    unfold iota; rw [List.map_map]; exact List.map_congr_left (fun j _ => by simp)
  rw [e1, e2]
  have hn : zs.length = n := by omega
  have := (permB_perm hp)
  rw [hn] at this
  exact (this.map _).sum_nat
def hits (ci kind : Int) (pins : List Int) (net color role : Int) : Nat := sumN (fun k => if pHit ci kind pins net color role k = true then 1 else 0) pins.length
theorem pTo_rep (ci kind : Int) (pins : List Int) (net color role : Int) : pTo ci kind pins net color role pins.length = rep [color, role] (hits ci kind pins net color role) := by
  unfold pTo hits
  rw [← flat_rep]
  congr 1
  funext k
  split <;> rfl
theorem dTo_rep (ds : List Dv) (cs : List Int) (net color role : Int) : dTo ds cs net color role ds.length = rep [color, role] (sumN (fun j => hits (nmOf cs (j : Int)) (dAt ds j).kind (dAt ds j).pins net color role) ds.length) := by
  unfold dTo
  rw [← flat_rep]
  congr 1
  funext j
  exact pTo_rep _ _ _ _ _ _
def DvEqv (p : List Int) (d e : Dv) : Prop :=
  e.kind = d.kind ∧ e.wd = d.wd ∧ e.len = d.len ∧
  (e.pins = d.pins.map (nmOf p) ∨
   (∃ a b, d.pins = [a, b] ∧ e.pins = [nmOf p b, nmOf p a]) ∨ ∃ g a b, d.pins = [g, a, b] ∧ e.pins = [nmOf p g, nmOf p b, nmOf p a])
structure NlIso (x y : Nl) (p q : List Int) : Prop where
  pp : permB p x.nets = true
  pq : permB q (x.ds.length : Int) = true
  nets : y.nets = x.nets
  len : y.ds.length = x.ds.length
  dev : ∀ (i : Nat) (d : Dv), x.ds[i]? = some d → ∃ e, y.ds[(nmOf q (i : Int)).toNat]? = some e ∧ DvEqv p d e
  plen : y.ps.length = x.ps.length
  port : ∀ (i : Nat) (a : Pt), x.ps[i]? = some a → ∃ b, y.ps[i]? = some b ∧ b.name = a.name ∧ b.net = nmOf p a.net
def ColEqv (x : Nl) (p q : List Int) (c d : List Int × List Int) : Prop :=
  (∀ i : Nat, (i : Int) < x.nets → nmOf c.1 (i : Int) = nmOf d.1 (nmOf p (i : Int))) ∧ ∀ i : Nat, i < x.ds.length → nmOf c.2 (i : Int) = nmOf d.2 (nmOf q (i : Int))
theorem pinsOf_two {d : Dv} {nets : Int} (h : dvB nets d = true) : (d.kind = 2 ∧ ∃ a b, d.pins = [a, b]) ∨ (¬ d.kind = 2 ∧ ∃ g a b, d.pins = [g, a, b]) := by
  obtain ⟨h1, h2, _⟩ := dvB_all h
  by_cases hk : d.kind = 2
  · left
    have : d.pins.length = 2 := by rw [h2, hk]; rfl
    match e : d.pins with
    | [a, b] => exact ⟨hk, a, b, rfl⟩
    | [] => rw [e] at this; cases this
    | [_] => rw [e] at this; cases this
    | _ :: _ :: _ :: _ => rw [e] at this; simp at this
  · right
    have : d.pins.length = 3 := by rw [h2]; unfold pinsOf; rw [if_neg (by omega)]
    match e : d.pins with
    | [g, a, b] => exact ⟨hk, g, a, b, rfl⟩
    | [] => rw [e] at this; cases this
    | [_] => rw [e] at this; cases this
    | [_, _] => rw [e] at this; cases this
    | _ :: _ :: _ :: _ :: _ => rw [e] at this; simp at this
theorem dvB_in {nets : Int} {d : Dv} (h : dvB nets d = true) {p : Int} (hp : p ∈ d.pins) : 0 ≤ p ∧ p < nets := (dvB_pins h).2.2 p hp
theorem hits_eqv {x : Nl} {p : List Int} (hp : permB p x.nets = true) {d e : Dv} (hd : dvB x.nets d = true) (h : DvEqv p d e) (ci net color role : Int) (h0 : 0 ≤ net) (h1 : net < x.nets) :
    hits ci d.kind d.pins net color role = hits ci e.kind e.pins (nmOf p net) color role := by
  obtain ⟨k1, k2, k3, k4⟩ := h
  have inj : ∀ a, a ∈ d.pins → (nmOf p a = nmOf p net ↔ a = net) := fun a ha =>
    ⟨fun e => nmP_inj hp (dvB_in hd ha) ⟨h0, h1⟩ e, fun e => by rw [e]⟩
  rw [k1]
  rcases pinsOf_two hd with ⟨hk, a, b, hpn⟩ | ⟨hk, g, a, b, hpn⟩
  · have ia := inj a (by rw [hpn]; simp)
    have ib := inj b (by rw [hpn]; simp)
    have k4' : e.pins = [nmOf p a, nmOf p b] ∨ e.pins = [nmOf p b, nmOf p a] := by
      rcases k4 with q | ⟨a', b', q1, q2⟩ | ⟨g', a', b', q1, q2⟩
      · left; rw [q, hpn]; rfl
      · right; rw [hpn] at q1; injection q1 with q1 q3; injection q3 with q3; subst q1 q3; exact q2
      · rw [hpn] at q1; simp at q1
    rw [hpn, hk]
    rcases k4' with q | q <;> rw [q] <;> simp only [hits, List.length_cons, List.length_nil, sumN, pHit, roleOf, List.getD_cons_zero, List.getD_cons_succ, if_true, ia, ib]
    omega
  · have ig := inj g (by rw [hpn]; simp)
    have ia := inj a (by rw [hpn]; simp)
    have ib := inj b (by rw [hpn]; simp)
    have k4' : e.pins = [nmOf p g, nmOf p a, nmOf p b] ∨ e.pins = [nmOf p g, nmOf p b, nmOf p a] := by
      rcases k4 with q | ⟨a', b', q1, q2⟩ | ⟨g', a', b', q1, q2⟩
      · left; rw [q, hpn]; rfl
      · rw [hpn] at q1; simp at q1
      · right; rw [hpn] at q1; injection q1 with q0 q1; injection q1 with q1 q3; injection q3 with q3; subst q0 q1 q3; exact q2
    rw [hpn]
    rcases k4' with q | q <;> rw [q] <;> simp only [hits, List.length_cons, List.length_nil, sumN, pHit, roleOf, List.getD_cons_zero, List.getD_cons_succ, if_neg hk, ig, ia, ib, show min (((0 + 1 + 1 : Nat)) : Int) 1 = 1 from rfl, show min (((0 + 1 : Nat)) : Int) 1 = 1 from rfl, show min (((1 : Nat)) : Int) 1 = 1 from rfl, show min (((2 : Nat)) : Int) 1 = 1 from rfl]
    omega
theorem dAt_some {ds : List Dv} {i : Nat} {d : Dv} (h : ds[i]? = some d) : dAt ds i = d := by unfold dAt; rw [List.getD_eq_getElem?_getD, h]; rfl
section
variable {x y : Nl} {p q : List Int} (H : NlIso x y p q) (hx : nlB x = true)
include H hx
theorem NlIso.at_ (i : Nat) (hi : i < x.ds.length) : DvEqv p (dAt x.ds i) (dAt y.ds (nmOf q (i : Int)).toNat) ∧ dvB x.nets (dAt x.ds i) = true := by
  have e : x.ds[i]? = some x.ds[i] := List.getElem?_eq_getElem hi
  obtain ⟨f, h1, h2⟩ := H.dev i _ e
  rw [dAt_some e, dAt_some h1]
  exact ⟨h2, (nlB_facts hx).2.2.2.1 _ (List.getElem_mem hi)⟩
theorem NlIso.sig {c d : List Int × List Int} (hc : ColEqv x p q c d) (net : Nat) (hn : (net : Int) < x.nets) : netL' x c (net : Int) = netL' y d (nmOf p (net : Int)) := by
  unfold netL'
  rw [hc.1 net hn]
  congr 1
  unfold cTo
  congr 1
  funext color
  unfold rTo
  congr 1
  funext role
  rw [dTo_rep, dTo_rep, H.len]
  congr 1
  rw [← sumN_perm H.pq (fun j => hits (nmOf d.2 (j : Int)) (dAt y.ds j).kind (dAt y.ds j).pins (nmOf p (net : Int)) color role)]
  refine sumN_congr (fun j hj => ?_)
  obtain ⟨h1, h2⟩ := H.at_ hx j hj
  have hq := (nmP H.pq (i := (j : Int)) (by omega) (by omega)).2
  rw [hits_eqv H.pp h2 h1 _ _ _ _ (by omega) hn, hc.2 j hj, Int.toNat_of_nonneg hq.1]
theorem NlIso.dsig {c d : List Int × List Int} (hc : ColEqv x p q c d) (i : Nat) (hi : i < x.ds.length) : dsgL (dAt x.ds i) (nmOf c.2 (i : Int)) c.1 = dsgL (dAt y.ds (nmOf q (i : Int)).toNat) (nmOf d.2 (nmOf q (i : Int))) d.1 := by
  obtain ⟨⟨k1, k2, k3, k4⟩, h2⟩ := H.at_ hx i hi
  have nc : ∀ a, a ∈ (dAt x.ds i).pins → nmOf c.1 a = nmOf d.1 (nmOf p a) := fun a ha => by
    have := dvB_in h2 ha
    have q := hc.1 a.toNat (by omega)
    rwa [Int.toNat_of_nonneg this.1] at q
  rw [← hc.2 i hi]
  generalize dAt x.ds i = D at *
  generalize dAt y.ds (nmOf q (i : Int)).toNat = E at *
  rcases pinsOf_two h2 with ⟨hk, a, b, hpn⟩ | ⟨hk, g, a, b, hpn⟩
  · have ia := nc a (by rw [hpn]; simp)
    have ib := nc b (by rw [hpn]; simp)
    rw [dsgL_r hk hpn]
    rcases k4 with q | ⟨a', b', q1, q2⟩ | ⟨g', a', b', q1, q2⟩
    · rw [dsgL_r (by rw [k1]; exact hk) (by rw [q, hpn]; rfl), ia, ib]
    · rw [hpn] at q1; injection q1 with q1 q3; injection q3 with q3; subst q1 q3
      rw [dsgL_r (by rw [k1]; exact hk) q2, ia, ib]
      unfold dsgT; rw [Int.min_comm, Int.max_comm]
    · rw [hpn] at q1; simp at q1
  · have ig := nc g (by rw [hpn]; simp)
    have ia := nc a (by rw [hpn]; simp)
    have ib := nc b (by rw [hpn]; simp)
    rw [dsgL_m hk hpn]
    rcases k4 with q | ⟨a', b', q1, q2⟩ | ⟨g', a', b', q1, q2⟩
    · rw [dsgL_m (by rw [k1]; exact hk) (by rw [q, hpn]; rfl), ig, ia, ib]
    · rw [hpn] at q1; simp at q1
    · rw [hpn] at q1; injection q1 with q0 q1; injection q1 with q1 q3; injection q3 with q3; subst q0 q1 q3
      rw [dsgL_m (by rw [k1]; exact hk) q2, ig, ia, ib]
      unfold dsgT; rw [Int.min_comm, Int.max_comm]
theorem NlIso.ref {c d : List Int × List Int} (hc : ColEqv x p q c d) (hl : (c.1.length : Int) = x.nets) (hl2 : (d.1.length : Int) = x.nets) : ColEqv x p q (refS x c) (refS y d) := by
  obtain ⟨n, hn⟩ : ∃ n : Nat, x.nets = n := ⟨x.nets.toNat, by omega⟩
  have e1 : c.1.length = n := by omega
  have e2 : d.1.length = n := by omega
  constructor
  · intro i hi
    unfold refS
    dsimp only
    rw [e1, e2]
    refine rank_eqv (by rw [← hn]; exact H.pp) _ _ (fun j hj => ?_) i (by omega)
    have hz := (nmP H.pp (i := (j : Int)) (by omega) (by omega)).2
    rw [Int.toNat_of_nonneg hz.1]
    exact H.sig hx hc j (by omega)
  · intro i hi
    unfold refS dsgLs
    dsimp only
    rw [H.len]
    refine rank_eqv H.pq _ _ (fun j hj => ?_) i hi
    have hz := (nmP H.pq (i := (j : Int)) (by omega) (by omega)).2
    rw [Int.toNat_of_nonneg hz.1]
    exact H.dsig hx hc j hj
end
theorem difI_mem {zs ys : List Int} (h : ∀ z, z ∈ zs ↔ z ∈ ys) : difI zs = difI ys := by
  unfold difI
  refine (perm_of_mem _ _ (nodup_fstTo _ (Nat.le_refl _)) (nodup_fstTo _ (Nat.le_refl _)) (fun z => ?_)).length_eq
  rw [mem_fstTo _ (Nat.le_refl _), mem_fstTo _ (Nat.le_refl _), List.take_length, List.take_length]
  exact h z
theorem dif_eqv {zs : List Int} {n : Nat} (hp : permB zs (n : Int) = true) {a b : List Int} (ha : a.length = n) (hb : b.length = n) (h : ∀ i : Nat, i < n → nmOf a (i : Int) = nmOf b (nmOf zs (i : Int))) : difI a = difI b := by
  refine difI_mem (fun z => ?_)
  have at_ : ∀ (l : List Int) (i : Nat), i < l.length → l[i]? = some (nmOf l (i : Int)) := fun l i hi => by
    unfold nmOf; rw [Int.toNat_natCast, List.getD_eq_getElem?_getD, List.getElem?_eq_getElem hi]; rfl
  constructor
  · intro hz
    obtain ⟨i, hi, e⟩ := List.mem_iff_getElem.1 hz
    have e1 := at_ a i hi
    rw [List.getElem?_eq_getElem hi, e] at e1
    rw [Option.some.inj e1, h i (by omega)]
    have hq := (nmP hp (i := (i : Int)) (by omega) (by omega)).2
    have e2 := at_ b (nmOf zs (i : Int)).toNat (by omega)
    rw [Int.toNat_of_nonneg hq.1] at e2
    exact List.mem_of_getElem? e2
  · intro hz
    obtain ⟨j, hj, e⟩ := List.mem_iff_getElem.1 hz
    have e1 := at_ b j hj
    rw [List.getElem?_eq_getElem hj, e] at e1
    obtain ⟨k, hk, ek⟩ := nmP_onto hp (k := (j : Int)) (by omega) (by omega)
    have e2 := at_ a k (by omega)
    rw [h k (by omega), ek, ← Option.some.inj e1] at e2
    exact List.mem_of_getElem? e2
section
variable {x y : Nl} {p q : List Int} (H : NlIso x y p q)
include H
theorem NlIso.cnt {c d : List Int × List Int} (hcx : coB x c = true) (hdy : coB y d = true) (hc : ColEqv x p q c d) : cntC c = cntC d := by
  obtain ⟨n, hn⟩ : ∃ n : Nat, x.nets = n := ⟨x.nets.toNat, by have := (coB_facts hcx); have := (permB_iff.1 H.pp).1; omega⟩
  obtain ⟨f1, f2, f3, f4⟩ := coB_lens hcx
  obtain ⟨g1, g2, g3, g4⟩ := coB_lens hdy
  have e1 : difI c.1 = difI d.1 := dif_eqv (n := n) (by rw [← hn]; exact H.pp) (by omega) (by have := H.nets; omega) (fun i hi => hc.1 i (by omega))
  have e2 : difI c.2 = difI d.2 := dif_eqv (n := x.ds.length) H.pq (by omega) (by have := H.len; omega) hc.2
  unfold cntC
  rw [e1, e2]
theorem NlIso.refN (hx : nlB x = true) : ∀ (f : Nat) (c d : List Int × List Int) (s : Int), coB x c = true → coB y d = true → ColEqv x p q c d → (refN x f c s).2 = (refN y f d s).2 ∧ ColEqv x p q (refN x f c s).1 (refN y f d s).1
  | 0, c, d, s, _, _, h => ⟨rfl, h⟩
  | f + 1, c, d, s, hc, hd, h => by
    obtain ⟨f1, f2, f3, f4⟩ := coB_lens hc
    obtain ⟨g1, g2, g3, g4⟩ := coB_lens hd
    have hr := H.ref hx h f1 (by rw [g1]; exact H.nets)
    have c1 := coB_ref hc
    have d1 := coB_ref hd
    have e1 := H.cnt hc hd h
    have e2 := H.cnt c1 d1 hr
    by_cases e : cntC (refS x c) ≤ cntC c
    · rw [refN_stop e, refN_stop (by rw [← e1, ← e2]; exact e)]
      exact ⟨rfl, h⟩
    · rw [refN_go e, refN_go (by rw [← e1, ← e2]; exact e)]
      exact NlIso.refN hx f _ _ _ c1 d1 hr
theorem NlIso.ini (hx : nlB x = true) : ColEqv x p q (iniS x) (iniS y) := by
  obtain ⟨⟨n0, n1⟩, hl, hp, hd, hpt⟩ := nlB_facts hx
  obtain ⟨n, hn⟩ : ∃ n : Nat, x.nets = n := ⟨x.nets.toNat, by omega⟩
  constructor
  · intro i hi
    unfold iniS netL
    dsimp only
    rw [H.nets, hn, Int.toNat_natCast]
    refine rank_eqv (by rw [← hn]; exact H.pp) _ _ (fun j hj => ?_) i (by omega)
    have hz := (nmP H.pp (i := (j : Int)) (by omega) (by omega)).2
    rw [Int.toNat_of_nonneg hz.1, H.plen]
    unfold portTo
    congr 1
    refine List.filter_congr (fun k hk => ?_)
    rw [List.mem_range] at hk
    have e : x.ps[k]? = some x.ps[k] := List.getElem?_eq_getElem hk
    obtain ⟨b, hb, _, hbn⟩ := H.port k _ e
    rw [e, hb]
    dsimp only
    rw [hbn]
    have hpk := hpt k hk
    have hin : 0 ≤ x.ps[k].net ∧ x.ps[k].net < x.nets := by
      unfold ptOk at hpk
      rw [e] at hpk
      simp only [Bool.and_eq_true] at hpk
      have := inB_iff.1 hpk.2.1
      omega
    by_cases hc : x.ps[k].net = (j : Int)
    · rw [hc]; simp
    · have : ¬ nmOf p x.ps[k].net = nmOf p (j : Int) := fun e => hc (nmP_inj H.pp hin (by omega) e)
      simp [hc, this]
  · intro i hi
    unfold iniS
    dsimp only
    have form : ∀ ds : List Dv, devL ds = (List.range ds.length).map (fun k => [(dAt ds k).kind, (dAt ds k).wd, (dAt ds k).len]) := fun ds => by
      apply List.ext_getElem?
      intro k
      unfold devL
      rw [List.getElem?_map, List.getElem?_map]
      by_cases hk : k < ds.length
      · rw [List.getElem?_range hk, List.getElem?_eq_getElem hk]
        show some _ = some _
        dsimp only
        rw [dAt_some (List.getElem?_eq_getElem hk)]
      · rw [List.getElem?_eq_none (by omega), List.getElem?_eq_none (by simp; omega)]; rfl
    rw [form, form, H.len]
    refine rank_eqv H.pq _ _ (fun j hj => ?_) i hi
    obtain ⟨⟨k1, k2, k3, _⟩, _⟩ := H.at_ hx j hj
    rw [k1, k2, k3]
theorem NlIso.net (hx : nlB x = true) (hy : nlB y = true) : (refNet x).2 = (refNet y).2 ∧ ColEqv x p q (refNet x).1 (refNet y).1 := by
  unfold refNet
  rw [if_pos hx, if_pos hy]
  exact H.refN hx 64 _ _ 0 (coB_ini hx) (coB_ini hy) (H.ini hx)
end
/- What FnColorsInvariant wants of the plain part. -/
end Go.Proofs.YtifbffianbgeaaaGreat
