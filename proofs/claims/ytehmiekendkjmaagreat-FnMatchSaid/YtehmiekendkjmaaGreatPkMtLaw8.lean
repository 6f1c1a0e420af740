/- Contracts and plain laws, part 8, for the statement's proof. -/
import Derived.Test.YtehmiekendkjmaaGreatPkMtLaw7
import Derived.BigRegion
import Derived.BigQuiet
import Derived.Deep.RegionHeld3
import Derived.Test.YtehmiekendkjmaaGreatRows
import Derived.WalkKit
import Derived.ProofKit
import Derived.OpenShut
namespace Go.Proofs.YtehmiekendkjmaaGreat
open Go.RowKit
set_option linter.unusedVariables false
set_option linter.unusedSimpArgs false
set_option maxRecDepth 100000 in
set_option maxHeartbeats 4000000 in
theorem specIso_any (x y : Nl) (m : List Int × List Int) (v u t : Value) (w : World) (h : NlV w v x) (h' : NlV w u y) (hm : MaV w t m) (hok : ∀ p ∈ x.ps, p.ok) (hok' : ∀ p ∈ y.ps, p.ok) (hnn : Fits x.nets) (hnn' : Fits y.nets) (hl : m.1.length ≤ 1048576) (hl' : m.2.length ≤ 1048576) :
    Calls Tryz.prog 9 #[v, u, t] w fun e w' => e = .returned (.bool (isoB x y m)) ∧ Below w.heap.size w w' := by
  have HVa := Lib.hid (fun v w h => specNl_any x v w h hok hnn)
  have HVb := Lib.hid (fun v w h => specNl_any y v w h hok' hnn')
  have HNa := Lib.hid h
  have HNb := Lib.hid h'
  obtain ⟨s1, s2, rfl, hm1, hm2⟩ := hm
  obtain ⟨names, zs⟩ := m
  dsimp only at hm1 hm2 hl hl'
  have HS := Lib.hid hm1
  have HZ := Lib.hid hm2
  obtain ⟨R, hR⟩ : ∃ r, isoB x y (names, zs) = r := ⟨_, rfl⟩
  rw [hR]
  obtain ⟨a1, c1, a2, c2, rfl⟩ := h.sized
  obtain ⟨b1, d1, b2, d2, rfl⟩ := h'.sized
  obtain ⟨am, cm, rfl⟩ := hm1.len
  obtain ⟨an, cn, rfl⟩ := hm2.len
  obtain ⟨nets, ds, ps⟩ := x
  obtain ⟨nets', ds', ps'⟩ := y
  dsimp only at *
  cases hva : nlB ⟨nets, ds, ps⟩ with
  | false =>
    rw [hva] at HVa
    have HR := Lib.hid (show R = false by rw [← hR]; simp [isoB, hva])
    clear h h' hm1 hm2 hok hok' hnn hnn' hR hva
    go_enter Tryz.func9, Tryz.ntmps9
    go_wp2_with fail
    refine (HVa.out _ _ (HNa.out.by blwT)).mono ?_
    rintro e w1 ⟨rfl, hb1⟩
    have kA : Blk w1 w.heap.size #[.int .i64 nets, .slice a1 ds.length c1, .slice a2 ps.length c2] 27 := blkT
    have kB : Blk w1 (w.heap.size + 1) #[.int .i64 nets', .slice b1 ds'.length d1, .slice b2 ps'.length d2] 27 := blkT
    have kM : Blk w1 (w.heap.size + 1 + 1) #[.slice am names.length cm, .slice an zs.length cn] 32 := blkT
    have hW : Below w.heap.size w w1 := blwT
    have qA := kA.cell
    have qB := kB.cell
    have qM := kM.cell
    clear hb1
    go_wp2
    go_ret
    exact ⟨ret_bool HR.out.symm, blwT⟩
  | true =>
    rw [hva] at HVa
    obtain ⟨⟨hn0, hn1⟩, hd24, hp8, hdv, _⟩ := nlB_facts hva
    have hnet := nl_netsI hva
    dsimp only at hn0 hn1 hd24 hp8 hdv hnet
    obtain ⟨n, rfl⟩ : ∃ n : Nat, nets = n := ⟨nets.toNat, by omega⟩
    cases hvb : nlB ⟨nets', ds', ps'⟩ with
    | false =>
      rw [hvb] at HVb
      have HR := Lib.hid (show R = false by rw [← hR]; simp [isoB, hvb])
      clear h h' hm1 hm2 hok hok' hnn hnn' hR hva hvb hdv hnet
      go_enter Tryz.func9, Tryz.ntmps9
      go_wp2_with fail
      refine (HVa.out _ _ (HNa.out.by blwT)).mono ?_
      rintro e w1 ⟨rfl, hb1⟩
      have kA : Blk w1 w.heap.size #[.int .i64 (n : Int), .slice a1 ds.length c1, .slice a2 ps.length c2] 27 := blkT
      have kB : Blk w1 (w.heap.size + 1) #[.int .i64 nets', .slice b1 ds'.length d1, .slice b2 ps'.length d2] 27 := blkT
      have kM : Blk w1 (w.heap.size + 1 + 1) #[.slice am names.length cm, .slice an zs.length cn] 32 := blkT
      have hW : Below w.heap.size w w1 := blwT
      have qA := kA.cell
      have qB := kB.cell
      have qM := kM.cell
      clear hb1
      go_wp2_with fail
      refine (HVb.out _ _ (HNb.out.by hW)).mono ?_
      rintro e w2 ⟨rfl, hb2⟩
      replace kA := Blk.by hb2 kA
      replace kB := Blk.by hb2 kB
      replace kM := Blk.by hb2 kM
      replace hW := below_on hb2 hW
      clear hb2 qA qB qM
      have qA := kA.cell
      have qB := kB.cell
      have qM := kM.cell
      go_wp2
      go_ret
      exact ⟨ret_bool HR.out.symm, blwT⟩
    | true =>
      rw [hvb] at HVb
      obtain ⟨_, hd24', hp8', hdv', _⟩ := nlB_facts hvb
      dsimp only at hd24' hp8' hdv'
      by_cases hnq : ¬ (n : Int) = nets'
      · have e1 : ((n : Int) != nets') = true := by simpa using hnq
        have HR := Lib.hid (show R = false by rw [← hR]; simp [isoB, hnq])
        clear h h' hm1 hm2 hok hok' hnn hnn' hR hva hvb hdv hnet hdv' hnq
        go_enter Tryz.func9, Tryz.ntmps9
        go_wp2_with fail
        refine (HVa.out _ _ (HNa.out.by blwT)).mono ?_
        rintro e w1 ⟨rfl, hb1⟩
        have kA : Blk w1 w.heap.size #[.int .i64 (n : Int), .slice a1 ds.length c1, .slice a2 ps.length c2] 27 := blkT
        have kB : Blk w1 (w.heap.size + 1) #[.int .i64 nets', .slice b1 ds'.length d1, .slice b2 ps'.length d2] 27 := blkT
        have kM : Blk w1 (w.heap.size + 1 + 1) #[.slice am names.length cm, .slice an zs.length cn] 32 := blkT
        have hW : Below w.heap.size w w1 := blwT
        have qA := kA.cell
        have qB := kB.cell
        have qM := kM.cell
        clear hb1
        go_wp2_with fail
        refine (HVb.out _ _ (HNb.out.by hW)).mono ?_
        rintro e w2 ⟨rfl, hb2⟩
        replace kA := Blk.by hb2 kA
        replace kB := Blk.by hb2 kB
        replace kM := Blk.by hb2 kM
        replace hW := below_on hb2 hW
        clear hb2 qA qB qM
        have qA := kA.cell
        have qB := kB.cell
        have qM := kM.cell
        go_wp2
        go_ret
        exact ⟨ret_bool HR.out.symm, blwT⟩
      replace hnq := Decidable.not_not.1 hnq
      subst hnq
      by_cases hdq : ¬ ds.length = ds'.length
      · have e2 : ((ds.length : Int) != (ds'.length : Int)) = true := by simp; omega
        have HR := Lib.hid (show R = false by rw [← hR]; simp [isoB, hdq])
        clear h h' hm1 hm2 hok hok' hnn hnn' hR hva hvb hdv hnet hdv' hdq
        go_enter Tryz.func9, Tryz.ntmps9
        go_wp2_with fail
        refine (HVa.out _ _ (HNa.out.by blwT)).mono ?_
        rintro e w1 ⟨rfl, hb1⟩
        have kA : Blk w1 w.heap.size #[.int .i64 (n : Int), .slice a1 ds.length c1, .slice a2 ps.length c2] 27 := blkT
        have kB : Blk w1 (w.heap.size + 1) #[.int .i64 (n : Int), .slice b1 ds'.length d1, .slice b2 ps'.length d2] 27 := blkT
        have kM : Blk w1 (w.heap.size + 1 + 1) #[.slice am names.length cm, .slice an zs.length cn] 32 := blkT
        have hW : Below w.heap.size w w1 := blwT
        have qA := kA.cell
        have qB := kB.cell
        have qM := kM.cell
        clear hb1
        go_wp2_with fail
        refine (HVb.out _ _ (HNb.out.by hW)).mono ?_
        rintro e w2 ⟨rfl, hb2⟩
        replace kA := Blk.by hb2 kA
        replace kB := Blk.by hb2 kB
        replace kM := Blk.by hb2 kM
        replace hW := below_on hb2 hW
        clear hb2 qA qB qM
        have qA := kA.cell
        have qB := kB.cell
        have qM := kM.cell
        go_wp2
        go_ret
        exact ⟨ret_bool HR.out.symm, blwT⟩
      replace hdq := Decidable.not_not.1 hdq
      have e2 : ((ds.length : Int) != (ds'.length : Int)) = false := by simp; omega
      have HDQ := Lib.hid hdq
      have HO1 := Lib.hid (fun w h => specPerm_any (.slice am names.length cm) names n w h hl (by omega))
      have HO2 := Lib.hid (fun w h => specPerm_any (.slice an zs.length cn) zs ds.length w h hl' (by omega))
      cases hp1 : permB names (n : Int) with
      | false =>
        rw [hp1] at HO1
        have HR := Lib.hid (show R = false by rw [← hR]; simp [isoB, hp1])
        clear h h' hm1 hm2 hok hok' hnn hnn' hR hva hvb hdv hnet hdv' hdq hp1
        go_enter Tryz.func9, Tryz.ntmps9
        go_wp2_with fail
        refine (HVa.out _ _ (HNa.out.by blwT)).mono ?_
        rintro e w1 ⟨rfl, hb1⟩
        have kA : Blk w1 w.heap.size #[.int .i64 (n : Int), .slice a1 ds.length c1, .slice a2 ps.length c2] 27 := blkT
        have kB : Blk w1 (w.heap.size + 1) #[.int .i64 (n : Int), .slice b1 ds'.length d1, .slice b2 ps'.length d2] 27 := blkT
        have kM : Blk w1 (w.heap.size + 1 + 1) #[.slice am names.length cm, .slice an zs.length cn] 32 := blkT
        have hW : Below w.heap.size w w1 := blwT
        have qA := kA.cell
        have qB := kB.cell
        have qM := kM.cell
        clear hb1
        go_wp2_with fail
        refine (HVb.out _ _ (HNb.out.by hW)).mono ?_
        rintro e w2 ⟨rfl, hb2⟩
        replace kA := Blk.by hb2 kA
        replace kB := Blk.by hb2 kB
        replace kM := Blk.by hb2 kM
        replace hW := below_on hb2 hW
        clear hb2 qA qB qM
        have qA := kA.cell
        have qB := kB.cell
        have qM := kM.cell
        go_wp2_with fail
        refine (HO1.out _ (HS.out.by hW)).mono ?_
        rintro e w3 ⟨rfl, hb3⟩
        replace kA := Blk.by hb3 kA
        replace kB := Blk.by hb3 kB
        replace kM := Blk.by hb3 kM
        replace hW := below_on hb3 hW
        clear hb3 qA qB qM
        have qA := kA.cell
        have qB := kB.cell
        have qM := kM.cell
        go_wp2
        go_ret
        exact ⟨ret_bool HR.out.symm, blwT⟩
      | true =>
        rw [hp1] at HO1
        have hlen : (names.length : Int) = n := (permB_iff.1 hp1).1
        cases hp2 : permB zs (ds.length : Int) with
        | false =>
          rw [hp2] at HO2
          have HR := Lib.hid (show R = false by rw [← hR]; simp [isoB, hp2])
          clear h h' hm1 hm2 hok hok' hnn hnn' hR hva hvb hdv hnet hdv' hdq hp1 hp2 hlen
          go_enter Tryz.func9, Tryz.ntmps9
          go_wp2_with fail
          refine (HVa.out _ _ (HNa.out.by blwT)).mono ?_
          rintro e w1 ⟨rfl, hb1⟩
          have kA : Blk w1 w.heap.size #[.int .i64 (n : Int), .slice a1 ds.length c1, .slice a2 ps.length c2] 27 := blkT
          have kB : Blk w1 (w.heap.size + 1) #[.int .i64 (n : Int), .slice b1 ds'.length d1, .slice b2 ps'.length d2] 27 := blkT
          have kM : Blk w1 (w.heap.size + 1 + 1) #[.slice am names.length cm, .slice an zs.length cn] 32 := blkT
          have hW : Below w.heap.size w w1 := blwT
          have qA := kA.cell
          have qB := kB.cell
          have qM := kM.cell
          clear hb1
          go_wp2_with fail
          refine (HVb.out _ _ (HNb.out.by hW)).mono ?_
          rintro e w2 ⟨rfl, hb2⟩
          replace kA := Blk.by hb2 kA
          replace kB := Blk.by hb2 kB
          replace kM := Blk.by hb2 kM
          replace hW := below_on hb2 hW
          clear hb2 qA qB qM
          have qA := kA.cell
          have qB := kB.cell
          have qM := kM.cell
          go_wp2_with fail
          refine (HO1.out _ (HS.out.by hW)).mono ?_
          rintro e w3 ⟨rfl, hb3⟩
          replace kA := Blk.by hb3 kA
          replace kB := Blk.by hb3 kB
          replace kM := Blk.by hb3 kM
          replace hW := below_on hb3 hW
          clear hb3 qA qB qM
          have qA := kA.cell
          have qB := kB.cell
          have qM := kM.cell
          go_wp2_with fail
          refine (HO2.out _ (HZ.out.by hW)).mono ?_
          rintro e w4 ⟨rfl, hb4⟩
          replace kA := Blk.by hb4 kA
          replace kB := Blk.by hb4 kB
          replace kM := Blk.by hb4 kM
          replace hW := below_on hb4 hW
          clear hb4 qA qB qM
          have qA := kA.cell
          have qB := kB.cell
          have qM := kM.cell
          go_wp2
          go_ret
          exact ⟨ret_bool HR.out.symm, blwT⟩
        | true =>
          rw [hp2] at HO2
          have hx3 : ∀ d ∈ ds, d.pins.length ≤ 3 ∧ d.pins ≠ [] ∧ ∀ z ∈ d.pins, 0 ≤ z ∧ z < names.length := fun d hd => by
            have q := dvB_pins (hdv d hd)
            exact ⟨q.1, fun e => by rw [e] at q; simp at q, fun z hz => by have := q.2.2 z hz; omega⟩
          have hy3 : ∀ d ∈ ds', d.pins.length ≤ 3 := fun d hd => (dvB_pins (hdv' d hd)).1
          have hpn : ∀ p ∈ ps, 0 ≤ p.net ∧ p.net < names.length := fun p hp => by have := hnet p hp; omega
          have HP2 := Lib.hid hp2
          have HDS := Lib.hid (show DvSl w (.slice a1 ds.length c1) ds from (nlV_parts HNa.out).1)
          have HES := Lib.hid (show DvSl w (.slice b1 ds'.length d1) ds' from (nlV_parts HNb.out).1)
          have HSAME := Lib.hid (fun d e sx sy w hd he h h' hn => same_any d e names sx sy (.slice am names.length cm) w h h' hn (hx3 d hd).1 (hx3 d hd).2.1 (hx3 d hd).2.2 (hy3 e he))
          have HPT := Lib.hid (fun v u w (h : NlV w v ⟨(n : Int), ds, ps⟩) (h' : NlV w u ⟨(n : Int), ds', ps'⟩) hn => l30Ports_any ⟨(n : Int), ds, ps⟩ ⟨(n : Int), ds', ps'⟩ names v u (.slice am names.length cm) w h h' hn hpn (by dsimp only; omega) (by dsimp only; omega))
          dsimp only at HPT
          cases hpt : (decide (ps.length = ps'.length) && allB (prtAt ps ps' names) ps.length) with
          | false =>
            simp only [hpt] at HPT
            have hpt' : ¬ (ps.length = ps'.length ∧ allB (prtAt ps ps' names) ps.length = true) := by simpa using hpt
            have HR := Lib.hid (show R = false by rw [← hR]; simp only [isoB]; cases h1 : decide (ps.length = ps'.length) <;> cases h2 : allB (prtAt ps ps' names) ps.length <;> simp_all)
            clear h h' hm1 hm2 hok hok' hnn hnn' hR hva hvb hdv hnet hdv' hdq hp1 hp2 hlen hpt hpt' hx3 hy3 hpn
            go_enter Tryz.func9, Tryz.ntmps9
            go_wp2_with fail
            refine (HVa.out _ _ (HNa.out.by blwT)).mono ?_
            rintro e w1 ⟨rfl, hb1⟩
            have kA : Blk w1 w.heap.size #[.int .i64 (n : Int), .slice a1 ds.length c1, .slice a2 ps.length c2] 27 := blkT
            have kB : Blk w1 (w.heap.size + 1) #[.int .i64 (n : Int), .slice b1 ds'.length d1, .slice b2 ps'.length d2] 27 := blkT
            have kM : Blk w1 (w.heap.size + 1 + 1) #[.slice am names.length cm, .slice an zs.length cn] 32 := blkT
            have hW : Below w.heap.size w w1 := blwT
            have qA := kA.cell
            have qB := kB.cell
            have qM := kM.cell
            clear hb1
            go_wp2_with fail
            refine (HVb.out _ _ (HNb.out.by hW)).mono ?_
            rintro e w2 ⟨rfl, hb2⟩
            replace kA := Blk.by hb2 kA
            replace kB := Blk.by hb2 kB
            replace kM := Blk.by hb2 kM
            replace hW := below_on hb2 hW
            clear hb2 qA qB qM
            have qA := kA.cell
            have qB := kB.cell
            have qM := kM.cell
            go_wp2_with fail
            refine (HO1.out _ (HS.out.by hW)).mono ?_
            rintro e w3 ⟨rfl, hb3⟩
            replace kA := Blk.by hb3 kA
            replace kB := Blk.by hb3 kB
            replace kM := Blk.by hb3 kM
            replace hW := below_on hb3 hW
            clear hb3 qA qB qM
            have qA := kA.cell
            have qB := kB.cell
            have qM := kM.cell
            go_wp2_with fail
            refine (HO2.out _ (HZ.out.by hW)).mono ?_
            rintro e w4 ⟨rfl, hb4⟩
            replace kA := Blk.by hb4 kA
            replace kB := Blk.by hb4 kB
            replace kM := Blk.by hb4 kM
            replace hW := below_on hb4 hW
            clear hb4 qA qB qM
            have qA := kA.cell
            have qB := kB.cell
            have qM := kM.cell
            go_wp2_with fail
            refine (HPT.out _ _ _ (HNa.out.by hW) (HNb.out.by hW) (HS.out.by hW)).mono ?_
            rintro e w5 ⟨rfl, hb5⟩
            replace kA := Blk.by hb5 kA
            replace kB := Blk.by hb5 kB
            replace kM := Blk.by hb5 kM
            replace hW := below_on hb5 hW
            clear hb5 qA qB qM
            have qA := kA.cell
            have qB := kB.cell
            have qM := kM.cell
            go_wp2
            go_ret
            exact ⟨ret_bool HR.out.symm, blwT⟩
          | true =>
            simp only [hpt] at HPT
            have hpt' : ps.length = ps'.length ∧ allB (prtAt ps ps' names) ps.length = true := by simpa using hpt
            have HRR := Lib.hid (show R = allB (devAt ds ds' (names, zs)) ds.length by rw [← hR]; simp only [isoB, hva, hvb, hp1, hp2, decide_eq_true hdq, decide_eq_true hpt'.1, hpt'.2, Bool.true_and, decide_true])
            have HAY := Lib.hid (@allB_yes (devAt ds ds' (names, zs)) ds.length)
            have HAN := Lib.hid (fun i h h' => @allB_no (devAt ds ds' (names, zs)) ds.length i h h')
            clear h h' hm1 hm2 hok hok' hnn hnn' hR hva hvb hdv hnet hdv' hdq hp1 hp2 hlen hpt hpt' hx3 hy3 hpn
            go_enter Tryz.func9, Tryz.ntmps9
            go_wp2_with fail
            refine (HVa.out _ _ (HNa.out.by blwT)).mono ?_
            rintro e w1 ⟨rfl, hb1⟩
            have kA : Blk w1 w.heap.size #[.int .i64 (n : Int), .slice a1 ds.length c1, .slice a2 ps.length c2] 27 := blkT
            have kB : Blk w1 (w.heap.size + 1) #[.int .i64 (n : Int), .slice b1 ds'.length d1, .slice b2 ps'.length d2] 27 := blkT
            have kM : Blk w1 (w.heap.size + 1 + 1) #[.slice am names.length cm, .slice an zs.length cn] 32 := blkT
            have hW : Below w.heap.size w w1 := blwT
            have qA := kA.cell
            have qB := kB.cell
            have qM := kM.cell
            clear hb1
            go_wp2_with fail
            refine (HVb.out _ _ (HNb.out.by hW)).mono ?_
            rintro e w2 ⟨rfl, hb2⟩
            replace kA := Blk.by hb2 kA
            replace kB := Blk.by hb2 kB
            replace kM := Blk.by hb2 kM
            replace hW := below_on hb2 hW
            clear hb2 qA qB qM
            have qA := kA.cell
            have qB := kB.cell
            have qM := kM.cell
            go_wp2_with fail
            refine (HO1.out _ (HS.out.by hW)).mono ?_
            rintro e w3 ⟨rfl, hb3⟩
            replace kA := Blk.by hb3 kA
            replace kB := Blk.by hb3 kB
            replace kM := Blk.by hb3 kM
            replace hW := below_on hb3 hW
            clear hb3 qA qB qM
            have qA := kA.cell
            have qB := kB.cell
            have qM := kM.cell
            go_wp2_with fail
            refine (HO2.out _ (HZ.out.by hW)).mono ?_
            rintro e w4 ⟨rfl, hb4⟩
            replace kA := Blk.by hb4 kA
            replace kB := Blk.by hb4 kB
            replace kM := Blk.by hb4 kM
            replace hW := below_on hb4 hW
            clear hb4 qA qB qM
            have qA := kA.cell
            have qB := kB.cell
            have qM := kM.cell
            go_wp2_with fail
            refine (HPT.out _ _ _ (HNa.out.by hW) (HNb.out.by hW) (HS.out.by hW)).mono ?_
            rintro e w5 ⟨rfl, hb5⟩
            replace kA := Blk.by hb5 kA
            replace kB := Blk.by hb5 kB
            replace kM := Blk.by hb5 kM
            replace hW := below_on hb5 hW
            clear hb5 qA qB qM
            have qA := kA.cell
            have qB := kB.cell
            have qM := kM.cell
            have HAT := Lib.hid (fun i j d e => @devAt_of ds ds' (names, zs) i j d e)
            go_wp2
            go_loopw [7] (fun i wr => ∃ k : Nat, k ≤ ds.length ∧ i = .int .i64 k ∧ Hid (∀ j, j < k → devAt ds ds' (names, zs) j = true) ∧ Blk wr w.heap.size #[.int .i64 (n : Int), .slice a1 ds.length c1, .slice a2 ps.length c2] 27 ∧ Blk wr (w.heap.size + 1) #[.int .i64 (n : Int), .slice b1 ds'.length d1, .slice b2 ps'.length d2] 27 ∧ Blk wr (w.heap.size + 1 + 1) #[.slice am names.length cm, .slice an zs.length cn] 32 ∧ Below w.heap.size w wr) (fun i _ => ds.length - (intOf i).toNat)
            case atStart => exact ⟨0, Nat.zero_le _, rfl, Lib.hid (by intro j h; omega), kA, kB, kM, hW⟩
            case round =>
              clear kA kB kM hW qA qB qM
              obtain ⟨k, hk, rfl, HI, kA, kB, kM, hb⟩ := hrel
              have qA := kA.cell
              have qB := kB.cell
              have qM := kM.cell
              by_cases hlt : k < ds.length
              · obtain ⟨x, hx⟩ : ∃ x, ds[k]? = some x := ⟨ds[k], List.getElem?_eq_getElem hlt⟩
                have hzl : zs.length = ds.length := by have := (permB_iff.1 HP2.out).1; omega
                obtain ⟨z, hz⟩ : ∃ z, zs[k]? = some z := ⟨zs[k]'(by omega), List.getElem?_eq_getElem _⟩
                obtain ⟨hz1, hz2⟩ := (permB_iff.1 HP2.out).2.2 z (List.mem_of_getElem? hz)
                obtain ⟨j, rfl⟩ : ∃ j : Nat, z = j := ⟨z.toNat, by omega⟩
                have hjl : j < ds'.length := by have := HDQ.out; omega
                obtain ⟨y, hy⟩ : ∃ y, ds'[j]? = some y := ⟨ds'[j], List.getElem?_eq_getElem hjl⟩
                rcases HDS.out with ⟨_, _, _, h2⟩ | ⟨xb, xo, xc, he, _, _, hdc⟩
                · rw [h2] at hx; simp at hx
                obtain ⟨rfl, rfl⟩ : a1 = some ⟨xb, xo, none⟩ ∧ c1 = xc := by simpa using he
                rcases HES.out with ⟨_, _, _, h2⟩ | ⟨yb, yo, yc, he', _, _, hec⟩
                · rw [h2] at hy; simp at hy
                obtain ⟨rfl, rfl⟩ : b1 = some ⟨yb, yo, none⟩ ∧ d1 = yc := by simpa using he'
                rcases HZ.out with ⟨_, _, _, h2⟩ | ⟨zb, zo, zc, hez, _, _, hzc⟩
                · rw [h2] at hz; simp at hz
                obtain ⟨rfl, rfl⟩ : an = some ⟨zb, zo, none⟩ ∧ cn = zc := by simpa using hez
                obtain ⟨sx, p1, p2, p3, p4, hSx⟩ := hdc k x hx
                obtain ⟨sy, q1, q2, q3, q4, hSy⟩ := hec j y hy
                have r1 := hzc k j hz
                have HSX := Lib.hid hSx
                have HSY := Lib.hid hSy
                obtain ⟨ax, cx, rfl⟩ := hSx.len
                obtain ⟨ay, cy, rfl⟩ := hSy.len
                have HC := fun w h h' hn => HSAME.out x y (.slice ax x.pins.length cx) (.slice ay y.pins.length cy) w (List.mem_of_getElem? hx) (List.mem_of_getElem? hy) h h' hn
                have hAT := HAT.out k j x y hx hz hy
                have d1' := cell_by' hb p1
                have d2' := cell_by' hb p2
                have d3' := cell_by' hb p3
                have d4' := cell_by' hb p4
                have g1 := cell_by' hb q1
                have g2 := cell_by' hb q2
                have g3 := cell_by' hb q3
                have g4 := cell_by' hb q4
                have u1 := cell_by' hb r1
                have i1 : (0 : Int) ≤ (k : Int) := by omega
                have i2 : (k : Int) < (ds.length : Int) := by omega
                have i2' : (k : Int) < (zs.length : Int) := by omega
                have i3 : (0 : Int) ≤ (j : Int) := by omega
                have i4 : (j : Int) < (ds'.length : Int) := by omega
                clear hx hz hy hzl he he' hez hdc hec hzc hSx hSy p1 p2 p3 p4 q1 q2 q3 q4 r1
                cases hq : isoD names x y with
                | true =>
                  simp only [hq] at HC
                  rw [hq] at hAT
                  have HC' := Lib.hid HC
                  have HA := Lib.hid hAT
                  clear HC hq hAT
                  go_wp2_with fail
                  go_region_held3 (fun w' => (Blk w' w.heap.size #[.int .i64 (n : Int), .slice (some ⟨xb, xo, none⟩) ds.length c1, .slice a2 ps.length c2] 27 ∧ ∀ o, w'.cell? ⟨w.heap.size, o, none⟩ = (#[.int .i64 (n : Int), .slice (some ⟨xb, xo, none⟩) ds.length c1, .slice a2 ps.length c2] : Array Value)[o]?) ∧ (Blk w' (w.heap.size + 1) #[.int .i64 (n : Int), .slice (some ⟨yb, yo, none⟩) ds'.length d1, .slice b2 ps'.length d2] 27 ∧ ∀ o, w'.cell? ⟨w.heap.size + 1, o, none⟩ = (#[.int .i64 (n : Int), .slice (some ⟨yb, yo, none⟩) ds'.length d1, .slice b2 ps'.length d2] : Array Value)[o]?) ∧ (Blk w' (w.heap.size + 1 + 1) #[.slice am names.length cm, .slice (some ⟨zb, zo, none⟩) zs.length cn] 32 ∧ ∀ o, w'.cell? ⟨w.heap.size + 1 + 1, o, none⟩ = (#[.slice am names.length cm, .slice (some ⟨zb, zo, none⟩) zs.length cn] : Array Value)[o]?) ∧ (w'.cell? ⟨xb, xo + k * 4, none⟩ = some (.int .i64 x.kind) ∧ w'.cell? ⟨xb, xo + k * 4 + 1, none⟩ = some (.slice ax x.pins.length cx) ∧ w'.cell? ⟨xb, xo + k * 4 + 2, none⟩ = some (.int .i64 x.wd) ∧ w'.cell? ⟨xb, xo + k * 4 + 3, none⟩ = some (.int .i64 x.len)) ∧ (w'.cell? ⟨yb, yo + j * 4, none⟩ = some (.int .i64 y.kind) ∧ w'.cell? ⟨yb, yo + j * 4 + 1, none⟩ = some (.slice ay y.pins.length cy) ∧ w'.cell? ⟨yb, yo + j * 4 + 2, none⟩ = some (.int .i64 y.wd) ∧ w'.cell? ⟨yb, yo + j * 4 + 3, none⟩ = some (.int .i64 y.len)) ∧ w'.cell? ⟨zb, zo + k, none⟩ = some (.int .i64 (j : Int)) ∧ Below w.heap.size w w')
                    (first | exact ⟨kA.both, kB.both, kM.both, ⟨d1', d2', d3', d4'⟩, ⟨g1, g2, g3, g4⟩, u1, hb.drew⟩ | exact ⟨(Blk.by hb1 kA).both, (Blk.by hb1 kB).both, (Blk.by hb1 kM).both, ⟨cell_by' hb1 d1', cell_by' hb1 d2', cell_by' hb1 d3', cell_by' hb1 d4'⟩, ⟨cell_by' hb1 g1, cell_by' hb1 g2, cell_by' hb1 g3, cell_by' hb1 g4⟩, cell_by' hb1 u1, below_on hb1 hb.drew⟩)
                    (first | (go_at_call 26; refine (HC'.out _ (HSX.out.by hb.drew) (HSY.out.by hb.drew) (HS.out.by hb.drew)).mono ?_; rintro e w1 ⟨rfl, hb1⟩))
                  replace kA := Blk.by hb1 kA
                  replace kB := Blk.by hb1 kB
                  replace kM := Blk.by hb1 kM
                  replace hb := below_on hb1 hb.drew
                  clear d1' d2' d3' d4' g1 g2 g3 g4 u1 hb1 qA qB qM
                  go_wp2
                  refine ⟨⟨k + 1, by omega, by go_num, Lib.hid (fun i hi => ?_), kA, kB, kM, hb⟩, by simp [intOf]; omega⟩
                  by_cases ei : i = k
                  · subst ei; exact HA.out
                  · exact HI.out i (by omega)
                | false =>
                  simp only [hq] at HC
                  rw [hq] at hAT
                  have HC' := Lib.hid HC
                  have hr := Lib.hid (HRR.out.trans (HAN.out k hlt hAT))
                  clear HC hq hAT
                  go_wp2_with fail
                  go_region_held3 (fun w' => (Blk w' w.heap.size #[.int .i64 (n : Int), .slice (some ⟨xb, xo, none⟩) ds.length c1, .slice a2 ps.length c2] 27 ∧ ∀ o, w'.cell? ⟨w.heap.size, o, none⟩ = (#[.int .i64 (n : Int), .slice (some ⟨xb, xo, none⟩) ds.length c1, .slice a2 ps.length c2] : Array Value)[o]?) ∧ (Blk w' (w.heap.size + 1) #[.int .i64 (n : Int), .slice (some ⟨yb, yo, none⟩) ds'.length d1, .slice b2 ps'.length d2] 27 ∧ ∀ o, w'.cell? ⟨w.heap.size + 1, o, none⟩ = (#[.int .i64 (n : Int), .slice (some ⟨yb, yo, none⟩) ds'.length d1, .slice b2 ps'.length d2] : Array Value)[o]?) ∧ (Blk w' (w.heap.size + 1 + 1) #[.slice am names.length cm, .slice (some ⟨zb, zo, none⟩) zs.length cn] 32 ∧ ∀ o, w'.cell? ⟨w.heap.size + 1 + 1, o, none⟩ = (#[.slice am names.length cm, .slice (some ⟨zb, zo, none⟩) zs.length cn] : Array Value)[o]?) ∧ (w'.cell? ⟨xb, xo + k * 4, none⟩ = some (.int .i64 x.kind) ∧ w'.cell? ⟨xb, xo + k * 4 + 1, none⟩ = some (.slice ax x.pins.length cx) ∧ w'.cell? ⟨xb, xo + k * 4 + 2, none⟩ = some (.int .i64 x.wd) ∧ w'.cell? ⟨xb, xo + k * 4 + 3, none⟩ = some (.int .i64 x.len)) ∧ (w'.cell? ⟨yb, yo + j * 4, none⟩ = some (.int .i64 y.kind) ∧ w'.cell? ⟨yb, yo + j * 4 + 1, none⟩ = some (.slice ay y.pins.length cy) ∧ w'.cell? ⟨yb, yo + j * 4 + 2, none⟩ = some (.int .i64 y.wd) ∧ w'.cell? ⟨yb, yo + j * 4 + 3, none⟩ = some (.int .i64 y.len)) ∧ w'.cell? ⟨zb, zo + k, none⟩ = some (.int .i64 (j : Int)) ∧ Below w.heap.size w w')
                    (first | exact ⟨kA.both, kB.both, kM.both, ⟨d1', d2', d3', d4'⟩, ⟨g1, g2, g3, g4⟩, u1, hb.drew⟩ | exact ⟨(Blk.by hb1 kA).both, (Blk.by hb1 kB).both, (Blk.by hb1 kM).both, ⟨cell_by' hb1 d1', cell_by' hb1 d2', cell_by' hb1 d3', cell_by' hb1 d4'⟩, ⟨cell_by' hb1 g1, cell_by' hb1 g2, cell_by' hb1 g3, cell_by' hb1 g4⟩, cell_by' hb1 u1, below_on hb1 hb.drew⟩)
                    (first | (go_at_call 26; refine (HC'.out _ (HSX.out.by hb.drew) (HSY.out.by hb.drew) (HS.out.by hb.drew)).mono ?_; rintro e w1 ⟨rfl, hb1⟩))
                  replace hb := below_on hb1 hb.drew
                  go_wp2
                  go_ret
                  exact ⟨ret_bool hr.out.symm, hb⟩
              · obtain rfl : k = ds.length := by omega
                have hr := Lib.hid (HRR.out.trans (HAY.out (fun j hj => HI.out j hj)))
                go_wp2
                go_ret
                exact ⟨ret_bool hr.out.symm, blwT⟩
end Go.Proofs.YtehmiekendkjmaaGreat
namespace Go.Proofs.YtehmiekendkjmaaGreat.facts
open Go.RowKit Go.Proofs.YtehmiekendkjmaaGreat
theorem laid : (laidOutB Tryz.pinned.checked.prog) = true := by kernel_rfl
theorem rowed : (mapsRowed Tryz.pinned.checked.prog) = true := by kernel_rfl
theorem stops : (Tryz.pinned.checked.prog.stops == []) = true := by kernel_rfl
theorem knobs : (Tryz.pinned.checked.prog.stopKnobs == []) = true := by kernel_rfl
theorem keys : (Rows.fnMatchRow.plainKeys == Tryz.pinned.checked.prog.plainKeys) = true := by kernel_rfl
theorem heard : (Tryz.pinned.checked.prog.stopsHeard) = true := by kernel_rfl
theorem enter : (Tryz.pinned.checked.prog.mayEnter) = true := by kernel_rfl
theorem lifts : (Rows.fnMatchRow.lifted == Tryz.pinned.checked.prog.liftsFinal) = true := by kernel_rfl
theorem make : (Tryz.pinned.checked.prog.make == some Rows.fnMatchRow.make) = true := by kernel_rfl
theorem own : ownKnob Tryz.prog.godebug = none := by kernel_rfl
theorem laidOut : laidOutB Tryz.prog = true := laid
end Go.Proofs.YtehmiekendkjmaaGreat.facts
