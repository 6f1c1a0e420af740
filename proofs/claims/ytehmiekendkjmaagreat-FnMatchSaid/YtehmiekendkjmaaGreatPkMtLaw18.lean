/- Contracts and plain laws, part 18, for the statement's proof. -/
import Derived.Test.YtehmiekendkjmaaGreatPkMtLaw17
import Derived.BigRegion
import Derived.BigQuiet
import Derived.Deep.RegionHeld3
import Derived.Deep.DeepCutAuto
namespace Go.Proofs.YtehmiekendkjmaaGreat
open Go.RowKit
set_option linter.unusedVariables false
theorem iso_isoB {x y : Nl} {p q : List Int} (H : NlIso x y p q) (hx : nlB x = true) (hy : nlB y = true) : isoB x y (p, q) = true := by
  have hdx := (nlB_facts hx).2.2.2.1
  have hdy := (nlB_facts hy).2.2.2.1
  have a1 : allB (prtAt x.ps y.ps p) x.ps.length = true := allB_yes (fun i hi => by
    have ha : x.ps[i]? = some (x.ps[i]'hi) := List.getElem?_eq_getElem hi
    obtain ⟨b, hb, e1, e2⟩ := H.port i _ ha
    rw [prtAt_of ha hb, e1, e2]
    simp)
  have a2 : allB (devAt x.ds y.ds (p, q)) x.ds.length = true := allB_yes (fun i hi => by
    have ha : x.ds[i]? = some (x.ds[i]'hi) := List.getElem?_eq_getElem hi
    obtain ⟨e, he, hv⟩ := H.dev i _ ha
    have h2 := (nz_eqv (dvB_Two (hdx _ (List.mem_of_getElem? ha))) (dvB_Two (hdy _ (List.mem_of_getElem? he)))).2 hv
    generalize x.ds[i]'hi = d at *
    unfold devAt
    dsimp only
    rw [ha, he]
    dsimp only
    unfold isoD
    have k1 : d.kind = e.kind := by have t := congrArg Dv.kind h2; exact t
    have k2 : normz d.kind (d.pins.map (nmOf p)) = normz e.kind e.pins := by have t := congrArg Dv.pins h2; exact t
    have k3 : d.wd = e.wd := by have t := congrArg Dv.wd h2; exact t
    have k4 : d.len = e.len := by have t := congrArg Dv.len h2; exact t
    rw [k2, k1, k3, k4]
    unfold devcmp
    rw [sgn_eq rfl, sgn_eq rfl, sgn_eq rfl, lcmp_self]
    rfl)
  unfold isoB
  rw [hx, hy, decide_eq_true H.nets.symm, decide_eq_true H.len.symm, decide_eq_true H.plen.symm, a1, a2]
  dsimp only
  rw [H.pp, H.pq]
  rfl
theorem xpl_rng (x y : Nl) : (xplR x y).1 = 0 ∨ (1 ≤ (xplR x y).1 ∧ (xplR x y).1 < 7) := by
  unfold xplR
  split
  · split
    · split
      · split
        · split
          · split
            · left; rfl
            · right; dsimp only; omega
          · right; dsimp only; omega
        · right; dsimp only; omega
      · right; dsimp only; omega
    · right; dsimp only; omega
  · right; dsimp only; omega
theorem xpl_may {x y : Nl} (h : mayB x y = true) : (xplR x y).1 = 0 := by
  unfold mayB at h
  simp only [Bool.and_eq_true, decide_eq_true_eq] at h
  rw [xpl_7 h.1 h.2.1 h.2.2.1 h.2.2.2.1 h.2.2.2.2.1 h.2.2.2.2.2]
theorem mat_fin (x y : Nl) : (cmpC x y = 0 ∧ isoB x y (cmpR x y) = true ∧ expR x y = ((0, 0, 0), 0)) ∨ (cmpC x y = 5 ∧ (cmpR x y).1 = [] ∧ ∃ k a b, expR x y = ((k, a, b), 0) ∧ 1 ≤ k ∧ k ≤ 7) ∨
    (cmpC x y = 3 ∧ ∃ k a b c, expR x y = ((k, a, b), c) ∧ (c = 3 ∨ c = 0 ∧ 1 ≤ k ∧ k < 7)) ∨ (cmpC x y = 1 ∧ expR x y = ((0, 0, 0), 1)) := by
  cases hb : (nlB x && nlB y) with
  | false =>
    refine .inr (.inr (.inr ⟨?_, exp_inv hb⟩))
    unfold cmpC
    rw [if_neg (by rw [hb]; simp)]
  | true =>
    have hx : nlB x = true := by cases h : nlB x <;> simp_all
    have hy : nlB y = true := by cases h : nlB y <;> simp_all
    have hr := xpl_rng x y
    cases hsm : (smlB x && smlB y) with
    | false =>
      refine .inr (.inr (.inl ⟨?_, ?_⟩))
      · unfold cmpC
        rw [if_pos hb, if_neg (by rw [hsm]; simp)]
      · by_cases h0 : (xplR x y).1 = 0
        · rw [exp_z hb h0, if_neg (by rw [hsm]; simp)]
          exact ⟨_, _, _, _, rfl, .inl rfl⟩
        · rw [exp_x hb h0]
          generalize xplR x y = E at *
          obtain ⟨k, a, b⟩ := E
          dsimp only at hr h0
          exact ⟨_, _, _, _, rfl, .inr ⟨rfl, by omega, by omega⟩⟩
    | true =>
      cases hf : cmpF x y with
      | some z =>
        have hm : mayB x y = true := by
          unfold cmpF at hf
          cases h : mayB x y with
          | true => rfl
          | false => rw [h] at hf; simp at hf
        refine .inl ⟨?_, ?_, ?_⟩
        · unfold cmpC
          rw [if_pos hb, if_pos hsm, hf]
        · unfold cmpR
          rw [if_pos hb, if_pos hsm, hf]
          exact iso_isoB (cmpF_iso hx hy hf).2.2.2 hx hy
        · rw [exp_z hb (xpl_may hm), if_pos hsm, hf]
      | none =>
        refine .inr (.inl ⟨?_, ?_, ?_⟩)
        · unfold cmpC
          rw [if_pos hb, if_pos hsm, hf]
        · unfold cmpR
          rw [if_pos hb, if_pos hsm, hf]
        · by_cases h0 : (xplR x y).1 = 0
          · rw [exp_z hb h0, if_pos hsm, hf]
            exact ⟨_, _, _, rfl, by decide, by decide⟩
          · rw [exp_x hb h0]
            generalize xplR x y = E at *
            obtain ⟨k, a, b⟩ := E
            dsimp only at hr h0
            exact ⟨_, _, _, rfl, by omega, by omega⟩
set_option linter.unusedSimpArgs false
set_option maxRecDepth 100000 in
set_option maxHeartbeats 4000000 in
theorem implIso_any (x y : Nl) (m : List Int × List Int) (v u t : Value) (w : World) (h : NlV w v x) (h' : NlV w u y) (hm : MaV w t m) (hok : ∀ p ∈ x.ps, p.ok) (hok' : ∀ p ∈ y.ps, p.ok) (hnn : Fits x.nets) (hnn' : Fits y.nets) (hl : m.1.length ≤ 1048576) (hl' : m.2.length ≤ 1048576) :
    Calls Tryz.prog 8 #[v, u, t] w fun e w' => e = .returned (.bool (isoB x y m)) ∧ Below w.heap.size w w' := by
  have HVa := Lib.hid (fun v w h => implNl_any x v w h hok hnn)
  have HVb := Lib.hid (fun v w h => implNl_any y v w h hok' hnn')
  have HNa := Lib.hid h
  have HNb := Lib.hid h'
  obtain ⟨s1, s2, rfl, hm1, hm2⟩ := hm
  obtain ⟨names, zs⟩ := m
  dsimp only at hm1 hm2 hl hl'
  have HS := Lib.hid hm1
  have HZ := Lib.hid hm2
  obtain ⟨R, hR⟩ : ∃ r, isoB x y (names, zs) = r := ⟨_, rfl⟩
  rw [hR]
  obtain ⟨a1, c1, a2, c2, rfl⟩ := h.sized
  obtain ⟨b1, d1, b2, d2, rfl⟩ := h'.sized
  obtain ⟨am, cm, rfl⟩ := hm1.len
  obtain ⟨an, cn, rfl⟩ := hm2.len
  obtain ⟨nets, ds, ps⟩ := x
  obtain ⟨nets', ds', ps'⟩ := y
  dsimp only at *
  cases hva : nlB ⟨nets, ds, ps⟩ with
  | false =>
    rw [hva] at HVa
    have HR := Lib.hid (show R = false by rw [← hR]; simp [isoB, hva])
    clear h h' hm1 hm2 hok hok' hnn hnn' hR hva
    go_enter Tryz.func8, Tryz.ntmps8
    go_wp2_with fail
    refine (HVa.out _ _ (HNa.out.by blwT)).mono ?_
    rintro e w1 ⟨rfl, hb1⟩
    have kA : Blk w1 w.heap.size #[.int .i64 nets, .slice a1 ds.length c1, .slice a2 ps.length c2] 27 := blkT
    have kB : Blk w1 (w.heap.size + 1) #[.int .i64 nets', .slice b1 ds'.length d1, .slice b2 ps'.length d2] 27 := blkT
    have kM : Blk w1 (w.heap.size + 1 + 1) #[.slice am names.length cm, .slice an zs.length cn] 32 := blkT
    have hW : Below w.heap.size w w1 := blwT
    have qA := kA.cell
    have qB := kB.cell
    have qM := kM.cell
    clear hb1
    go_wp2
    go_ret
    exact ⟨ret_bool HR.out.symm, blwT⟩
  | true =>
    rw [hva] at HVa
    obtain ⟨⟨hn0, hn1⟩, hd24, hp8, hdv, _⟩ := nlB_facts hva
    have hnet := nl_netsI hva
    dsimp only at hn0 hn1 hd24 hp8 hdv hnet
    obtain ⟨n, rfl⟩ : ∃ n : Nat, nets = n := ⟨nets.toNat, by omega⟩
    cases hvb : nlB ⟨nets', ds', ps'⟩ with
    | false =>
      rw [hvb] at HVb
      have HR := Lib.hid (show R = false by rw [← hR]; simp [isoB, hvb])
      clear h h' hm1 hm2 hok hok' hnn hnn' hR hva hvb hdv hnet
      go_enter Tryz.func8, Tryz.ntmps8
      go_wp2_with fail
      refine (HVa.out _ _ (HNa.out.by blwT)).mono ?_
      rintro e w1 ⟨rfl, hb1⟩
      have kA : Blk w1 w.heap.size #[.int .i64 (n : Int), .slice a1 ds.length c1, .slice a2 ps.length c2] 27 := blkT
      have kB : Blk w1 (w.heap.size + 1) #[.int .i64 nets', .slice b1 ds'.length d1, .slice b2 ps'.length d2] 27 := blkT
      have kM : Blk w1 (w.heap.size + 1 + 1) #[.slice am names.length cm, .slice an zs.length cn] 32 := blkT
      have hW : Below w.heap.size w w1 := blwT
      have qA := kA.cell
      have qB := kB.cell
      have qM := kM.cell
      clear hb1
      go_wp2_with fail
      refine (HVb.out _ _ (HNb.out.by hW)).mono ?_
      rintro e w2 ⟨rfl, hb2⟩
      replace kA := Blk.by hb2 kA
      replace kB := Blk.by hb2 kB
      replace kM := Blk.by hb2 kM
      replace hW := below_on hb2 hW
      clear hb2 qA qB qM
      have qA := kA.cell
      have qB := kB.cell
      have qM := kM.cell
      go_wp2
      go_ret
      exact ⟨ret_bool HR.out.symm, blwT⟩
    | true =>
      rw [hvb] at HVb
      obtain ⟨_, hd24', hp8', hdv', _⟩ := nlB_facts hvb
      dsimp only at hd24' hp8' hdv'
      by_cases hnq : ¬ (n : Int) = nets'
      · have e1 : ((n : Int) != nets') = true := by simpa using hnq
        have HR := Lib.hid (show R = false by rw [← hR]; simp [isoB, hnq])
        clear h h' hm1 hm2 hok hok' hnn hnn' hR hva hvb hdv hnet hdv' hnq
        go_enter Tryz.func8, Tryz.ntmps8
        go_wp2_with fail
        refine (HVa.out _ _ (HNa.out.by blwT)).mono ?_
        rintro e w1 ⟨rfl, hb1⟩
        have kA : Blk w1 w.heap.size #[.int .i64 (n : Int), .slice a1 ds.length c1, .slice a2 ps.length c2] 27 := blkT
        have kB : Blk w1 (w.heap.size + 1) #[.int .i64 nets', .slice b1 ds'.length d1, .slice b2 ps'.length d2] 27 := blkT
        have kM : Blk w1 (w.heap.size + 1 + 1) #[.slice am names.length cm, .slice an zs.length cn] 32 := blkT
        have hW : Below w.heap.size w w1 := blwT
        have qA := kA.cell
        have qB := kB.cell
        have qM := kM.cell
        clear hb1
        go_wp2_with fail
        refine (HVb.out _ _ (HNb.out.by hW)).mono ?_
        rintro e w2 ⟨rfl, hb2⟩
        replace kA := Blk.by hb2 kA
        replace kB := Blk.by hb2 kB
        replace kM := Blk.by hb2 kM
        replace hW := below_on hb2 hW
        clear hb2 qA qB qM
        have qA := kA.cell
        have qB := kB.cell
        have qM := kM.cell
        go_wp2
        go_ret
        exact ⟨ret_bool HR.out.symm, blwT⟩
      replace hnq := Decidable.not_not.1 hnq
      subst hnq
      by_cases hdq : ¬ ds.length = ds'.length
      · have e2 : ((ds.length : Int) != (ds'.length : Int)) = true := by simp; omega
        have HR := Lib.hid (show R = false by rw [← hR]; simp [isoB, hdq])
        clear h h' hm1 hm2 hok hok' hnn hnn' hR hva hvb hdv hnet hdv' hdq
        go_enter Tryz.func8, Tryz.ntmps8
        go_wp2_with fail
        refine (HVa.out _ _ (HNa.out.by blwT)).mono ?_
        rintro e w1 ⟨rfl, hb1⟩
        have kA : Blk w1 w.heap.size #[.int .i64 (n : Int), .slice a1 ds.length c1, .slice a2 ps.length c2] 27 := blkT
        have kB : Blk w1 (w.heap.size + 1) #[.int .i64 (n : Int), .slice b1 ds'.length d1, .slice b2 ps'.length d2] 27 := blkT
        have kM : Blk w1 (w.heap.size + 1 + 1) #[.slice am names.length cm, .slice an zs.length cn] 32 := blkT
        have hW : Below w.heap.size w w1 := blwT
        have qA := kA.cell
        have qB := kB.cell
        have qM := kM.cell
        clear hb1
        go_wp2_with fail
        refine (HVb.out _ _ (HNb.out.by hW)).mono ?_
        rintro e w2 ⟨rfl, hb2⟩
        replace kA := Blk.by hb2 kA
        replace kB := Blk.by hb2 kB
        replace kM := Blk.by hb2 kM
        replace hW := below_on hb2 hW
        clear hb2 qA qB qM
        have qA := kA.cell
        have qB := kB.cell
        have qM := kM.cell
        go_wp2
        go_ret
        exact ⟨ret_bool HR.out.symm, blwT⟩
      replace hdq := Decidable.not_not.1 hdq
      have e2 : ((ds.length : Int) != (ds'.length : Int)) = false := by simp; omega
      have HDQ := Lib.hid hdq
      by_cases hpq : ¬ ps.length = ps'.length
      · have e3 : ((ps.length : Int) != (ps'.length : Int)) = true := by simp; omega
        have HR := Lib.hid (show R = false by rw [← hR]; simp [isoB, hpq])
        clear h h' hm1 hm2 hok hok' hnn hnn' hR hva hvb hdv hnet hdv' hdq hpq
        go_enter Tryz.func8, Tryz.ntmps8
        go_wp2_with fail
        refine (HVa.out _ _ (HNa.out.by blwT)).mono ?_
        rintro e w1 ⟨rfl, hb1⟩
        have kA : Blk w1 w.heap.size #[.int .i64 (n : Int), .slice a1 ds.length c1, .slice a2 ps.length c2] 27 := blkT
        have kB : Blk w1 (w.heap.size + 1) #[.int .i64 (n : Int), .slice b1 ds'.length d1, .slice b2 ps'.length d2] 27 := blkT
        have kM : Blk w1 (w.heap.size + 1 + 1) #[.slice am names.length cm, .slice an zs.length cn] 32 := blkT
        have hW : Below w.heap.size w w1 := blwT
        have qA := kA.cell
        have qB := kB.cell
        have qM := kM.cell
        clear hb1
        go_wp2_with fail
        refine (HVb.out _ _ (HNb.out.by hW)).mono ?_
        rintro e w2 ⟨rfl, hb2⟩
        replace kA := Blk.by hb2 kA
        replace kB := Blk.by hb2 kB
        replace kM := Blk.by hb2 kM
        replace hW := below_on hb2 hW
        clear hb2 qA qB qM
        have qA := kA.cell
        have qB := kB.cell
        have qM := kM.cell
        go_wp2
        go_ret
        exact ⟨ret_bool HR.out.symm, blwT⟩
      replace hpq := Decidable.not_not.1 hpq
      have e3 : ((ps.length : Int) != (ps'.length : Int)) = false := by simp; omega
      have HPQ := Lib.hid hpq
      have HO1 := Lib.hid (fun w h => implOrder_any (.slice am names.length cm) names n w h hl)
      have HO2 := Lib.hid (fun w h => implOrder_any (.slice an zs.length cn) zs ds.length w h hl')
      cases hp1 : permB names (n : Int) with
      | false =>
        rw [hp1] at HO1
        have HR := Lib.hid (show R = false by rw [← hR]; simp [isoB, hp1])
        clear h h' hm1 hm2 hok hok' hnn hnn' hR hva hvb hdv hnet hdv' hdq hp1 hpq
        go_enter Tryz.func8, Tryz.ntmps8
        go_wp2_with fail
        refine (HVa.out _ _ (HNa.out.by blwT)).mono ?_
        rintro e w1 ⟨rfl, hb1⟩
        have kA : Blk w1 w.heap.size #[.int .i64 (n : Int), .slice a1 ds.length c1, .slice a2 ps.length c2] 27 := blkT
        have kB : Blk w1 (w.heap.size + 1) #[.int .i64 (n : Int), .slice b1 ds'.length d1, .slice b2 ps'.length d2] 27 := blkT
        have kM : Blk w1 (w.heap.size + 1 + 1) #[.slice am names.length cm, .slice an zs.length cn] 32 := blkT
        have hW : Below w.heap.size w w1 := blwT
        have qA := kA.cell
        have qB := kB.cell
        have qM := kM.cell
        clear hb1
        go_wp2_with fail
        refine (HVb.out _ _ (HNb.out.by hW)).mono ?_
        rintro e w2 ⟨rfl, hb2⟩
        replace kA := Blk.by hb2 kA
        replace kB := Blk.by hb2 kB
        replace kM := Blk.by hb2 kM
        replace hW := below_on hb2 hW
        clear hb2 qA qB qM
        have qA := kA.cell
        have qB := kB.cell
        have qM := kM.cell
        go_wp2_with fail
        refine (HO1.out _ (HS.out.by hW)).mono ?_
        rintro e w3 ⟨rfl, hb3⟩
        replace kA := Blk.by hb3 kA
        replace kB := Blk.by hb3 kB
        replace kM := Blk.by hb3 kM
        replace hW := below_on hb3 hW
        clear hb3 qA qB qM
        have qA := kA.cell
        have qB := kB.cell
        have qM := kM.cell
        go_wp2
        go_ret
        exact ⟨ret_bool HR.out.symm, blwT⟩
      | true =>
        rw [hp1] at HO1
        have hlen : (names.length : Int) = n := (permB_iff.1 hp1).1
        cases hp2 : permB zs (ds.length : Int) with
        | false =>
          rw [hp2] at HO2
          have HR := Lib.hid (show R = false by rw [← hR]; simp [isoB, hp2])
          clear h h' hm1 hm2 hok hok' hnn hnn' hR hva hvb hdv hnet hdv' hdq hp1 hp2 hlen hpq
          go_enter Tryz.func8, Tryz.ntmps8
          go_wp2_with fail
          refine (HVa.out _ _ (HNa.out.by blwT)).mono ?_
          rintro e w1 ⟨rfl, hb1⟩
          have kA : Blk w1 w.heap.size #[.int .i64 (n : Int), .slice a1 ds.length c1, .slice a2 ps.length c2] 27 := blkT
          have kB : Blk w1 (w.heap.size + 1) #[.int .i64 (n : Int), .slice b1 ds'.length d1, .slice b2 ps'.length d2] 27 := blkT
          have kM : Blk w1 (w.heap.size + 1 + 1) #[.slice am names.length cm, .slice an zs.length cn] 32 := blkT
          have hW : Below w.heap.size w w1 := blwT
          have qA := kA.cell
          have qB := kB.cell
          have qM := kM.cell
          clear hb1
          go_wp2_with fail
          refine (HVb.out _ _ (HNb.out.by hW)).mono ?_
          rintro e w2 ⟨rfl, hb2⟩
          replace kA := Blk.by hb2 kA
          replace kB := Blk.by hb2 kB
          replace kM := Blk.by hb2 kM
          replace hW := below_on hb2 hW
          clear hb2 qA qB qM
          have qA := kA.cell
          have qB := kB.cell
          have qM := kM.cell
          go_wp2_with fail
          refine (HO1.out _ (HS.out.by hW)).mono ?_
          rintro e w3 ⟨rfl, hb3⟩
          replace kA := Blk.by hb3 kA
          replace kB := Blk.by hb3 kB
          replace kM := Blk.by hb3 kM
          replace hW := below_on hb3 hW
          clear hb3 qA qB qM
          have qA := kA.cell
          have qB := kB.cell
          have qM := kM.cell
          go_wp2_with fail
          refine (HO2.out _ (HZ.out.by hW)).mono ?_
          rintro e w4 ⟨rfl, hb4⟩
          replace kA := Blk.by hb4 kA
          replace kB := Blk.by hb4 kB
          replace kM := Blk.by hb4 kM
          replace hW := below_on hb4 hW
          clear hb4 qA qB qM
          have qA := kA.cell
          have qB := kB.cell
          have qM := kM.cell
          go_wp2
          go_ret
          exact ⟨ret_bool HR.out.symm, blwT⟩
        | true =>
          rw [hp2] at HO2
          have hx3 : ∀ d ∈ ds, d.pins.length ≤ 3 ∧ d.pins ≠ [] ∧ ∀ z ∈ d.pins, 0 ≤ z ∧ z < names.length := fun d hd => by
            have q := dvB_pins (hdv d hd)
            exact ⟨q.1, fun e => by rw [e] at q; simp at q, fun z hz => by have := q.2.2 z hz; omega⟩
          have hy3 : ∀ d ∈ ds', d.pins.length ≤ 3 := fun d hd => (dvB_pins (hdv' d hd)).1
          have hpn : ∀ p ∈ ps, 0 ≤ p.net ∧ p.net < names.length := fun p hp => by have := hnet p hp; omega
          have HP2 := Lib.hid hp2
          have HDS := Lib.hid (show DvSl w (.slice a1 ds.length c1) ds from (nlV_parts HNa.out).1)
          have HES := Lib.hid (show DvSl w (.slice b1 ds'.length d1) ds' from (nlV_parts HNb.out).1)
          have HMAP := Lib.hid (fun d sx w hd h hn => mapped_any d names sx (.slice am names.length cm) w h hn (hx3 d hd).1 (hx3 d hd).2.1 (hx3 d hd).2.2)
          have HNRM := Lib.hid (fun (d : Dv) sy w (hd : d ∈ ds') h => implNorm_any d.kind d.wd d.len sy d.pins w h (by have := hy3 d hd; omega))
          have HPN := Lib.hid hpn
          have HPS := Lib.hid (show PtSl w (.slice a2 ps.length c2) ps from (nlV_parts HNa.out).2)
          have HQS := Lib.hid (show PtSl w (.slice b2 ps'.length d2) ps' from (nlV_parts HNb.out).2)
          have HRR := Lib.hid (show R = (allB (prtAt ps ps' names) ps.length && allB (devAt ds ds' (names, zs)) ds.length) by rw [← hR]; simp only [isoB, hva, hvb, hp1, hp2, decide_eq_true hdq, decide_eq_true hpq, Bool.true_and, decide_true])
          have HPY := Lib.hid (@allB_yes (prtAt ps ps' names) ps.length)
          have HPF := Lib.hid (fun i h h' => @allB_no (prtAt ps ps' names) ps.length i h h')
          have HAY := Lib.hid (@allB_yes (devAt ds ds' (names, zs)) ds.length)
          have HAN := Lib.hid (fun i h h' => @allB_no (devAt ds ds' (names, zs)) ds.length i h h')
          have HPT := Lib.hid (fun i p q => @prtAt_of ps ps' names i p q)
          have HAT := Lib.hid (fun i j d e => @devAt_of ds ds' (names, zs) i j d e)
          clear h h' hm1 hm2 hok hok' hnn hnn' hR hva hvb hdv hnet hdv' hdq hpq hp1 hp2 hlen hx3 hy3 hpn
          go_enter Tryz.func8, Tryz.ntmps8
          go_wp2_with fail
          refine (HVa.out _ _ (HNa.out.by blwT)).mono ?_
          rintro e w1 ⟨rfl, hb1⟩
          have kA : Blk w1 w.heap.size #[.int .i64 (n : Int), .slice a1 ds.length c1, .slice a2 ps.length c2] 27 := blkT
          have kB : Blk w1 (w.heap.size + 1) #[.int .i64 (n : Int), .slice b1 ds'.length d1, .slice b2 ps'.length d2] 27 := blkT
          have kM : Blk w1 (w.heap.size + 1 + 1) #[.slice am names.length cm, .slice an zs.length cn] 32 := blkT
          have hW : Below w.heap.size w w1 := blwT
          have qA := kA.cell
          have qB := kB.cell
          have qM := kM.cell
          clear hb1
          go_wp2_with fail
          refine (HVb.out _ _ (HNb.out.by hW)).mono ?_
          rintro e w2 ⟨rfl, hb2⟩
          replace kA := Blk.by hb2 kA
          replace kB := Blk.by hb2 kB
          replace kM := Blk.by hb2 kM
          replace hW := below_on hb2 hW
          clear hb2 qA qB qM
          have qA := kA.cell
          have qB := kB.cell
          have qM := kM.cell
          go_wp2_with fail
          refine (HO1.out _ (HS.out.by hW)).mono ?_
          rintro e w3 ⟨rfl, hb3⟩
          replace kA := Blk.by hb3 kA
          replace kB := Blk.by hb3 kB
          replace kM := Blk.by hb3 kM
          replace hW := below_on hb3 hW
          clear hb3 qA qB qM
          have qA := kA.cell
          have qB := kB.cell
          have qM := kM.cell
          go_wp2_with fail
          refine (HO2.out _ (HZ.out.by hW)).mono ?_
          rintro e w4 ⟨rfl, hb4⟩
          replace kA := Blk.by hb4 kA
          replace kB := Blk.by hb4 kB
          replace kM := Blk.by hb4 kM
          replace hW := below_on hb4 hW
          clear hb4 qA qB qM
          have qA := kA.cell
          have qB := kB.cell
          have qM := kM.cell
          go_wp2
          go_loopw [63] (fun i wr => ∃ k : Nat, k ≤ ps.length ∧ i = .int .i64 k ∧ Hid (∀ j, j < k → prtAt ps ps' names j = true) ∧ Blk wr w.heap.size #[.int .i64 (n : Int), .slice a1 ds.length c1, .slice a2 ps.length c2] 27 ∧ Blk wr (w.heap.size + 1) #[.int .i64 (n : Int), .slice b1 ds'.length d1, .slice b2 ps'.length d2] 27 ∧ Blk wr (w.heap.size + 1 + 1) #[.slice am names.length cm, .slice an zs.length cn] 32 ∧ Below w.heap.size w wr) (fun i _ => ps.length - (intOf i).toNat)
          case atStart => exact ⟨0, Nat.zero_le _, rfl, Lib.hid (by intro j h; omega), kA, kB, kM, hW⟩
          case round =>
            clear kA kB kM hW qA qB qM
            obtain ⟨k, hk, rfl, HI, kA, kB, kM, hb⟩ := hrel
            have qA := kA.cell
            have qB := kB.cell
            have qM := kM.cell
            have lA := kA.lt
            have lB := kB.lt
            have lM := kM.lt
            by_cases hlt : k < ps.length
            · obtain ⟨p, hp⟩ : ∃ p, ps[k]? = some p := ⟨ps[k], List.getElem?_eq_getElem hlt⟩
              obtain ⟨q, hq⟩ : ∃ q, ps'[k]? = some q := ⟨ps'[k]'(by rw [← HPQ.out]; exact hlt), List.getElem?_eq_getElem _⟩
              obtain ⟨hp0, hp1⟩ := HPN.out p (List.mem_of_getElem? hp)
              have hat := HPT.out k p q hp hq
              rcases HPS.out with ⟨_, _, _, h2⟩ | ⟨pb, po, pc, he, _, _, h4⟩
              · rw [h2] at hp; simp at hp
              obtain ⟨rfl, rfl⟩ : a2 = some ⟨pb, po, none⟩ ∧ c2 = pc := by simpa using he
              rcases HQS.out with ⟨_, _, _, h2⟩ | ⟨qb, qo, qc, he', _, _, h4'⟩
              · rw [h2] at hq; simp at hq
              obtain ⟨rfl, rfl⟩ : b2 = some ⟨qb, qo, none⟩ ∧ d2 = qc := by simpa using he'
              obtain ⟨p1, p2⟩ := (h4 k p hp).by hb
              obtain ⟨q1, q2⟩ := (h4' k q hq).by hb
              obtain ⟨pn, hpn⟩ : ∃ n : Nat, p.net = n := ⟨p.net.toNat, by omega⟩
              rcases HS.out.by hb with ⟨_, _, _, h2⟩ | ⟨nb, no, nc, hen, _, _, hcn⟩
              · rw [h2] at hp1; simp at hp1; omega
              obtain ⟨rfl, rfl⟩ : am = some ⟨nb, no, none⟩ ∧ cm = nc := by simpa using hen
              have hpl : pn < names.length := by omega
              have c3 := hcn pn names[pn] (List.getElem?_eq_getElem hpl)
              have hnm : nmOf names p.net = names[pn] := by simp [nmOf, hpn, hpl]
              rw [hnm] at hat
              rw [hpn] at p2
              generalize names[pn] = z at *
              obtain ⟨name, net⟩ := p
              obtain ⟨name', net'⟩ := q
              dsimp only at *
              have HAT' := Lib.hid hat
              have l1 := lt_of_cell p1
              have l2 := lt_of_cell q1
              have l3 := lt_of_cell c3
              dsimp only at l1 l2 l3
              have i1 : (0 : Int) ≤ (k : Int) := by omega
              have i2 : (k : Int) < (ps.length : Int) := by omega
              have i2' : (k : Int) < (ps'.length : Int) := by have := HPQ.out; omega
              have i3 : (0 : Int) ≤ (pn : Int) := by omega
              have i4 : (pn : Int) < (names.length : Int) := by omega
              clear hp hq hat he he' hen hcn h4 h4' hnm hpn hp0 hp1
              cases hna : (name.toList == name'.toList) with
              | true =>
                rw [hna] at HAT'
                by_cases hnz : z = net'
                · subst hnz
                  have e4 : (z != z) = false := by simp
                  have e5 : (z == z) = true := by simp
                  go_wp2
                  go_quiet (fail)
                  go_wp2
                  refine ⟨⟨k + 1, by omega, by go_num, Lib.hid (fun j hj => ?_), blkT, blkT, blkT, blwT⟩, by simp [intOf]; omega⟩
                  by_cases ej : j = k
                  · subst ej; rw [HAT'.out]; simp
                  · exact HI.out j (by omega)
                · have e4 : (z != net') = true := by simpa using hnz
                  have e5 : (z == net') = false := by simpa using hnz
                  have hr := Lib.hid (show R = false by rw [HRR.out, HPF.out k hlt (by rw [HAT'.out]; simp [hnz])]; rfl)
                  clear hnz
                  go_wp2
                  go_quiet (fail)
                  go_wp2
                  go_ret
                  exact ⟨ret_bool hr.out.symm, blwT⟩
              | false =>
                rw [hna] at HAT'
                have hr := Lib.hid (show R = false by rw [HRR.out, HPF.out k hlt (by rw [HAT'.out]; simp)]; rfl)
                go_wp2
                go_quiet (fail)
                go_wp2
                go_ret
                exact ⟨ret_bool hr.out.symm, blwT⟩
            · obtain rfl : k = ps.length := by omega
              replace HRR := Lib.hid (show R = allB (devAt ds ds' (names, zs)) ds.length by rw [HRR.out, HPY.out (fun j hj => HI.out j hj)]; rfl)
              obtain ⟨wo, hwo⟩ : ∃ x : World, x = wr := ⟨_, rfl⟩
              subst hwo
              go_wp2
              go_loopw [93] (fun i wr => ∃ k : Nat, k ≤ ds.length ∧ i = .int .i64 k ∧ Hid (∀ j, j < k → devAt ds ds' (names, zs) j = true) ∧ Blk wr w.heap.size #[.int .i64 (n : Int), .slice a1 ds.length c1, .slice a2 ps.length c2] 27 ∧ Blk wr (w.heap.size + 1) #[.int .i64 (n : Int), .slice b1 ds'.length d1, .slice b2 ps'.length d2] 27 ∧ Blk wr (w.heap.size + 1 + 1) #[.slice am names.length cm, .slice an zs.length cn] 32 ∧ Below w.heap.size w wr) (fun i _ => ds.length - (intOf i).toNat)
              case atStart => exact ⟨0, Nat.zero_le _, rfl, Lib.hid (by intro j h; omega), kA, kB, kM, hb⟩
              case round =>
                clear kA kB kM hb qA qB qM HI lA lB lM
                obtain ⟨k, hk, rfl, HI, kA, kB, kM, hb⟩ := hrel
                have qA := kA.cell
                have lA := kA.lt
                have lB := kB.lt
                have lM := kM.lt
                by_cases hlt : k < ds.length
                · obtain ⟨x, hx⟩ : ∃ x, ds[k]? = some x := ⟨ds[k], List.getElem?_eq_getElem hlt⟩
                  have hzl : zs.length = ds.length := by have := (permB_iff.1 HP2.out).1; omega
                  obtain ⟨z, hz⟩ : ∃ z, zs[k]? = some z := ⟨zs[k]'(by omega), List.getElem?_eq_getElem _⟩
                  obtain ⟨hz1, hz2⟩ := (permB_iff.1 HP2.out).2.2 z (List.mem_of_getElem? hz)
                  obtain ⟨j, rfl⟩ : ∃ j : Nat, z = j := ⟨z.toNat, by omega⟩
                  have hjl : j < ds'.length := by have := HDQ.out; omega
                  obtain ⟨y, hy⟩ : ∃ y, ds'[j]? = some y := ⟨ds'[j], List.getElem?_eq_getElem hjl⟩
                  rcases HDS.out with ⟨_, _, _, h2⟩ | ⟨xb, xo, xc, he, _, _, hdc⟩
                  · rw [h2] at hx; simp at hx
                  obtain ⟨rfl, rfl⟩ : a1 = some ⟨xb, xo, none⟩ ∧ c1 = xc := by simpa using he
                  rcases HES.out with ⟨_, _, _, h2⟩ | ⟨yb, yo, yc, he', _, _, hec⟩
                  · rw [h2] at hy; simp at hy
                  obtain ⟨rfl, rfl⟩ : b1 = some ⟨yb, yo, none⟩ ∧ d1 = yc := by simpa using he'
                  rcases HZ.out with ⟨_, _, _, h2⟩ | ⟨zb, zo, zc, hez, _, _, hzc⟩
                  · rw [h2] at hz; simp at hz
                  obtain ⟨rfl, rfl⟩ : an = some ⟨zb, zo, none⟩ ∧ cn = zc := by simpa using hez
                  obtain ⟨sx, p1, p2, p3, p4, hSx⟩ := hdc k x hx
                  obtain ⟨sy, q1, q2, q3, q4, hSy⟩ := hec j y hy
                  have r1 := hzc k j hz
                  have HSX := Lib.hid hSx
                  have HSY := Lib.hid hSy
                  obtain ⟨ax, cx, rfl⟩ := hSx.len
                  obtain ⟨ay, cy, rfl⟩ := hSy.len
                  have HM1 := Lib.hid (fun w h hn => HMAP.out x (.slice ax x.pins.length cx) w (List.mem_of_getElem? hx) h hn)
                  have HN2 := Lib.hid (fun w h => HNRM.out y (.slice ay y.pins.length cy) w (List.mem_of_getElem? hy) h)
                  have HC := Lib.hid (fun s1 s2 w h h' => compareDevices_any x.kind x.wd x.len y.kind y.wd y.len s1 s2 (normz x.kind (x.pins.map (nmOf names))) (normz y.kind y.pins) w h h')
                  have hAT := HAT.out k j x y hx hz hy
                  dsimp only [isoD] at hAT
                  have d1' := cell_by' hb p1
                  have d2' := cell_by' hb p2
                  have d3' := cell_by' hb p3
                  have d4' := cell_by' hb p4
                  have i1 : (0 : Int) ≤ (k : Int) := by omega
                  have i2 : (k : Int) < (ds.length : Int) := by omega
                  have i2' : (k : Int) < (zs.length : Int) := by omega
                  have i3 : (0 : Int) ≤ (j : Int) := by omega
                  have i4 : (j : Int) < (ds'.length : Int) := by omega
                  generalize normz x.kind (x.pins.map (nmOf names)) = nx at *
                  generalize normz y.kind y.pins = ny at *
                  generalize devcmp x.kind y.kind nx ny x.wd y.wd x.len y.len = cv at *
                  have HR1 := Lib.hid q1
                  have HR2 := Lib.hid q2
                  have HR3 := Lib.hid q3
                  have HR4 := Lib.hid q4
                  have HR5 := Lib.hid r1
                  clear hx hz hy hzl he he' hez hdc hec hzc hSx hSy p1 p2 p3 p4 q1 q2 q3 q4 r1
                  obtain ⟨wo, hwo⟩ : ∃ x : World, x = wr := ⟨_, rfl⟩
                  subst hwo
                  obtain ⟨Dp, hDp⟩ : ∃ D, wo.heap.size = D := ⟨_, rfl⟩
                  cases hcv : (cv == 0) with
                  | true =>
                    have hcv' : (cv != 0) = false := by simpa using hcv
                    have hA : devAt ds ds' (names, zs) k = true := by rw [hAT]; simpa using hcv
                    have HA := Lib.hid hA
                    clear hAT hA
                    go_upto_region 15 with fail
                    obtain ⟨wA, hwA⟩ : ∃ wA, wA = wo.alloc (.cells #[.int .i64 x.kind, .slice ax x.pins.length cx, .int .i64 x.wd, .int .i64 x.len] 54) := ⟨_, rfl⟩
                    have hal : Below wo.heap.size wo wA := by rw [hwA]; exact (Below.refl _ wo).alloc (Nat.le_refl _) _
                    have kD : Blk wA Dp #[.int .i64 x.kind, .slice ax x.pins.length cx, .int .i64 x.wd, .int .i64 x.len] 54 := by rw [hwA]; exact Blk.new _ hDp.symm
                    rw [← hwA]
                    (try rw [hDp])
                    replace kA := Blk.by hal kA
                    replace kB := Blk.by hal kB
                    replace kM := Blk.by hal kM
                    replace hb := below_on hal hb
                    clear hal hwA hDp lA lB lM qA d1' d2' d3' d4'
                    have qB := kB.cell
                    have qM := kM.cell
                    have qD := kD.cell
                    have g1 := cell_by' hb HR1.out
                    have g2 := cell_by' hb HR2.out
                    have g3 := cell_by' hb HR3.out
                    have g4 := cell_by' hb HR4.out
                    have u1 := cell_by' hb HR5.out
                    go_wp2_with fail
                    go_region_held3 (fun w' => (Blk w' (w.heap.size + 1) #[.int .i64 (n : Int), .slice (some ⟨yb, yo, none⟩) ds'.length d1, .slice b2 ps'.length d2] 27 ∧ ∀ o, w'.cell? ⟨w.heap.size + 1, o, none⟩ = (#[.int .i64 (n : Int), .slice (some ⟨yb, yo, none⟩) ds'.length d1, .slice b2 ps'.length d2] : Array Value)[o]?) ∧ (Blk w' (w.heap.size + 1 + 1) #[.slice am names.length cm, .slice (some ⟨zb, zo, none⟩) zs.length cn] 32 ∧ ∀ o, w'.cell? ⟨w.heap.size + 1 + 1, o, none⟩ = (#[.slice am names.length cm, .slice (some ⟨zb, zo, none⟩) zs.length cn] : Array Value)[o]?) ∧ (Blk w' Dp #[.int .i64 x.kind, .slice ax x.pins.length cx, .int .i64 x.wd, .int .i64 x.len] 54 ∧ ∀ o, w'.cell? ⟨Dp, o, none⟩ = (#[.int .i64 x.kind, .slice ax x.pins.length cx, .int .i64 x.wd, .int .i64 x.len] : Array Value)[o]?) ∧ (w'.cell? ⟨yb, yo + j * 4, none⟩ = some (.int .i64 y.kind) ∧ w'.cell? ⟨yb, yo + j * 4 + 1, none⟩ = some (.slice ay y.pins.length cy) ∧ w'.cell? ⟨yb, yo + j * 4 + 2, none⟩ = some (.int .i64 y.wd) ∧ w'.cell? ⟨yb, yo + j * 4 + 3, none⟩ = some (.int .i64 y.len)) ∧ w'.cell? ⟨zb, zo + k, none⟩ = some (.int .i64 (j : Int)) ∧ Below w.heap.size w w')
                      (first | exact ⟨(kB).both, (kM).both, (kD).both, ⟨g1, g2, g3, g4⟩, u1, hb.drew⟩ | exact ⟨(Blk.by hb1 (kB)).both, (Blk.by hb1 (kM)).both, (Blk.by hb1 (kD)).both, ⟨cell_by' hb1 (g1), cell_by' hb1 (g2), cell_by' hb1 (g3), cell_by' hb1 (g4)⟩, cell_by' hb1 (u1), below_on hb1 (hb.drew)⟩ | exact ⟨(Blk.by hb2 (Blk.by hb1 (kB))).both, (Blk.by hb2 (Blk.by hb1 (kM))).both, (Blk.by hb2 (Blk.by hb1 (kD))).both, ⟨cell_by' hb2 (cell_by' hb1 (g1)), cell_by' hb2 (cell_by' hb1 (g2)), cell_by' hb2 (cell_by' hb1 (g3)), cell_by' hb2 (cell_by' hb1 (g4))⟩, cell_by' hb2 (cell_by' hb1 (u1)), below_on hb2 (below_on hb1 (hb.drew))⟩ | exact ⟨(Blk.by hb3 (Blk.by hb2 (Blk.by hb1 (kB)))).both, (Blk.by hb3 (Blk.by hb2 (Blk.by hb1 (kM)))).both, (Blk.by hb3 (Blk.by hb2 (Blk.by hb1 (kD)))).both, ⟨cell_by' hb3 (cell_by' hb2 (cell_by' hb1 (g1))), cell_by' hb3 (cell_by' hb2 (cell_by' hb1 (g2))), cell_by' hb3 (cell_by' hb2 (cell_by' hb1 (g3))), cell_by' hb3 (cell_by' hb2 (cell_by' hb1 (g4)))⟩, cell_by' hb3 (cell_by' hb2 (cell_by' hb1 (u1))), below_on hb3 (below_on hb2 (below_on hb1 (hb.drew)))⟩)
                      (first | (go_at_call 21; refine (HM1.out _ (HSX.out.by hb.drew) (HS.out.by hb.drew)).mono ?_; rintro e w1 ⟨v1, rfl, hO1, hb1⟩; have HO1 := Lib.hid hO1; obtain ⟨o1, c1', rfl⟩ := hO1.len; clear hO1) | (go_at_call 22; refine (HN2.out _ ((HSY.out.by hb.drew).by hb1)).mono ?_; rintro e w2 ⟨v2, rfl, hO2, hb2⟩; have HO2 := Lib.hid hO2.sl; obtain ⟨o2, c2', rfl⟩ := hO2.len; clear hO2) | (go_at_call 20; refine (HC.out _ _ _ (HO1.out.by hb2) HO2.out).mono ?_; rintro e w3 ⟨rfl, hb3⟩))
                    replace kA := Blk.by hb3 (Blk.by hb2 (Blk.by hb1 kA.drew))
                    replace kB := Blk.by hb3 (Blk.by hb2 (Blk.by hb1 kB.drew))
                    replace kM := Blk.by hb3 (Blk.by hb2 (Blk.by hb1 kM.drew))
                    replace hb := below_on hb3 (below_on hb2 (below_on hb1 hb.drew))
                    clear g1 g2 g3 g4 u1 hb1 hb2 hb3 qB qM qD kD
                    go_wp2
                    refine ⟨⟨k + 1, by omega, by go_num, Lib.hid (fun i hi => ?_), kA, kB, kM, hb⟩, by simp [intOf]; omega⟩
                    by_cases ei : i = k
                    · subst ei; exact HA.out
                    · exact HI.out i (by omega)
                  | false =>
                    have hcv' : (cv != 0) = true := by simpa using hcv
                    have hA : devAt ds ds' (names, zs) k = false := by rw [hAT]; simpa using hcv
                    have hr := Lib.hid (HRR.out.trans (HAN.out k hlt hA))
                    clear hAT hA
                    go_upto_region 15 with fail
                    obtain ⟨wA, hwA⟩ : ∃ wA, wA = wo.alloc (.cells #[.int .i64 x.kind, .slice ax x.pins.length cx, .int .i64 x.wd, .int .i64 x.len] 54) := ⟨_, rfl⟩
                    have hal : Below wo.heap.size wo wA := by rw [hwA]; exact (Below.refl _ wo).alloc (Nat.le_refl _) _
                    have kD : Blk wA Dp #[.int .i64 x.kind, .slice ax x.pins.length cx, .int .i64 x.wd, .int .i64 x.len] 54 := by rw [hwA]; exact Blk.new _ hDp.symm
                    rw [← hwA]
                    (try rw [hDp])
                    replace kA := Blk.by hal kA
                    replace kB := Blk.by hal kB
                    replace kM := Blk.by hal kM
                    replace hb := below_on hal hb
                    clear hal hwA hDp lA lB lM qA d1' d2' d3' d4'
                    have qB := kB.cell
                    have qM := kM.cell
                    have qD := kD.cell
                    have g1 := cell_by' hb HR1.out
                    have g2 := cell_by' hb HR2.out
                    have g3 := cell_by' hb HR3.out
                    have g4 := cell_by' hb HR4.out
                    have u1 := cell_by' hb HR5.out
                    go_wp2_with fail
                    go_region_held3 (fun w' => (Blk w' (w.heap.size + 1) #[.int .i64 (n : Int), .slice (some ⟨yb, yo, none⟩) ds'.length d1, .slice b2 ps'.length d2] 27 ∧ ∀ o, w'.cell? ⟨w.heap.size + 1, o, none⟩ = (#[.int .i64 (n : Int), .slice (some ⟨yb, yo, none⟩) ds'.length d1, .slice b2 ps'.length d2] : Array Value)[o]?) ∧ (Blk w' (w.heap.size + 1 + 1) #[.slice am names.length cm, .slice (some ⟨zb, zo, none⟩) zs.length cn] 32 ∧ ∀ o, w'.cell? ⟨w.heap.size + 1 + 1, o, none⟩ = (#[.slice am names.length cm, .slice (some ⟨zb, zo, none⟩) zs.length cn] : Array Value)[o]?) ∧ (Blk w' Dp #[.int .i64 x.kind, .slice ax x.pins.length cx, .int .i64 x.wd, .int .i64 x.len] 54 ∧ ∀ o, w'.cell? ⟨Dp, o, none⟩ = (#[.int .i64 x.kind, .slice ax x.pins.length cx, .int .i64 x.wd, .int .i64 x.len] : Array Value)[o]?) ∧ (w'.cell? ⟨yb, yo + j * 4, none⟩ = some (.int .i64 y.kind) ∧ w'.cell? ⟨yb, yo + j * 4 + 1, none⟩ = some (.slice ay y.pins.length cy) ∧ w'.cell? ⟨yb, yo + j * 4 + 2, none⟩ = some (.int .i64 y.wd) ∧ w'.cell? ⟨yb, yo + j * 4 + 3, none⟩ = some (.int .i64 y.len)) ∧ w'.cell? ⟨zb, zo + k, none⟩ = some (.int .i64 (j : Int)) ∧ Below w.heap.size w w')
                      (first | exact ⟨(kB).both, (kM).both, (kD).both, ⟨g1, g2, g3, g4⟩, u1, hb.drew⟩ | exact ⟨(Blk.by hb1 (kB)).both, (Blk.by hb1 (kM)).both, (Blk.by hb1 (kD)).both, ⟨cell_by' hb1 (g1), cell_by' hb1 (g2), cell_by' hb1 (g3), cell_by' hb1 (g4)⟩, cell_by' hb1 (u1), below_on hb1 (hb.drew)⟩ | exact ⟨(Blk.by hb2 (Blk.by hb1 (kB))).both, (Blk.by hb2 (Blk.by hb1 (kM))).both, (Blk.by hb2 (Blk.by hb1 (kD))).both, ⟨cell_by' hb2 (cell_by' hb1 (g1)), cell_by' hb2 (cell_by' hb1 (g2)), cell_by' hb2 (cell_by' hb1 (g3)), cell_by' hb2 (cell_by' hb1 (g4))⟩, cell_by' hb2 (cell_by' hb1 (u1)), below_on hb2 (below_on hb1 (hb.drew))⟩ | exact ⟨(Blk.by hb3 (Blk.by hb2 (Blk.by hb1 (kB)))).both, (Blk.by hb3 (Blk.by hb2 (Blk.by hb1 (kM)))).both, (Blk.by hb3 (Blk.by hb2 (Blk.by hb1 (kD)))).both, ⟨cell_by' hb3 (cell_by' hb2 (cell_by' hb1 (g1))), cell_by' hb3 (cell_by' hb2 (cell_by' hb1 (g2))), cell_by' hb3 (cell_by' hb2 (cell_by' hb1 (g3))), cell_by' hb3 (cell_by' hb2 (cell_by' hb1 (g4)))⟩, cell_by' hb3 (cell_by' hb2 (cell_by' hb1 (u1))), below_on hb3 (below_on hb2 (below_on hb1 (hb.drew)))⟩)
                      (first | (go_at_call 21; refine (HM1.out _ (HSX.out.by hb.drew) (HS.out.by hb.drew)).mono ?_; rintro e w1 ⟨v1, rfl, hO1, hb1⟩; have HO1 := Lib.hid hO1; obtain ⟨o1, c1', rfl⟩ := hO1.len; clear hO1) | (go_at_call 22; refine (HN2.out _ ((HSY.out.by hb.drew).by hb1)).mono ?_; rintro e w2 ⟨v2, rfl, hO2, hb2⟩; have HO2 := Lib.hid hO2.sl; obtain ⟨o2, c2', rfl⟩ := hO2.len; clear hO2) | (go_at_call 20; refine (HC.out _ _ _ (HO1.out.by hb2) HO2.out).mono ?_; rintro e w3 ⟨rfl, hb3⟩))
                    replace hb := below_on hb3 (below_on hb2 (below_on hb1 hb.drew))
                    go_wp2
                    go_ret
                    exact ⟨ret_bool hr.out.symm, hb⟩
                · obtain rfl : k = ds.length := by omega
                  have hr := Lib.hid (HRR.out.trans (HAY.out (fun j hj => HI.out j hj)))
                  go_wp2
                  go_ret
                  exact ⟨ret_bool hr.out.symm, blwT⟩
end Go.Proofs.YtehmiekendkjmaaGreat
namespace Go.Proofs.YtehmiekendkjmaaGreat.fnMatch
open Go.RowKit Go.Proofs.YtehmiekendkjmaaGreat
set_option linter.unusedVariables false
set_option linter.unusedSimpArgs false
theorem isoB_len {x y : Nl} {m : List Int × List Int} (h : isoB x y m = true) : m.1.length ≤ 1048576 ∧ m.2.length ≤ 1048576 := by
  unfold isoB at h
  simp only [Bool.and_eq_true] at h
  obtain ⟨h1, _, _, _, _, h2, h3, _⟩ := h
  obtain ⟨⟨n0, n1⟩, n2, _⟩ := nlB_facts h1
  have l1 := (permB_iff.1 h2).1
  have l2 := (permB_iff.1 h3).1
  constructor <;> omega
set_option maxRecDepth 100000 in
set_option maxHeartbeats 16000000 in
theorem walk (v0 : Value) (w : World) (n : Nat) (hB : Bytes w v0 n) :
    Calls Tryz.prog 3 #[v0] w fun e w' => e = .returned (.bool true) ∧ Below w.heap.size w w' := by
  have HB := Lib.hid hB
  have HBG := Lib.hid (fun w h => big_any v0 n w h)
  by_cases hn : 4096 < n
  · rw [decide_eq_true hn] at HBG
    clear hB hn
    go_enter Tryz.func3, Tryz.ntmps3
    go_wp2_with fail
    refine (HBG.out _ HB.out).mono ?_
    rintro e w1 ⟨rfl, rfl⟩
    go_wp2
    go_ret
    exact ⟨rfl, Below.refl _ _⟩
  · rw [decide_eq_false hn] at HBG
    have HDR := Lib.hid (fun w h => drawMt_any v0 n w h (by omega))
    clear hB hn
    go_enter Tryz.func3, Tryz.ntmps3
    go_wp2_with fail
    refine (HBG.out _ HB.out).mono ?_
    rintro e w1 ⟨rfl, rfl⟩
    go_wp2_with fail
    refine (HDR.out _ HB.out).mono ?_
    rintro e w1 ⟨v, u, rfl, HV, HU, hb1⟩
    obtain ⟨x, hx, hxp, hxn⟩ := HV.out
    obtain ⟨y, hy, hyp, hyn⟩ := HU.out
    have HX1 := Lib.hid hx.nl
    have HY1 := Lib.hid hy.nl
    clear HV HU hx hy
    obtain ⟨a1, c1, a2, c2, rfl⟩ := HX1.out.sized
    obtain ⟨a3, c3, a4, c4, rfl⟩ := HY1.out.sized
    have HCM := Lib.hid (fun v u w h h' => implCmpNl_any x y v u w h h' hxp hxn hyp hyn)
    have HXP := Lib.hid (fun v u w h h' => implExp_any x y v u w h h' hxp hxn hyp hyn)
    have HII := Lib.hid (fun v u t w h h' hm hl hl' => implIso_any x y (cmpR x y) v u t w h h' hm hxp hyp hxn hyn hl hl')
    have HSI := Lib.hid (fun v u t w h h' hm hl hl' => specIso_any x y (cmpR x y) v u t w h h' hm hxp hyp hxn hyn hl hl')
    have HMF := mat_fin x y
    obtain ⟨N, hN⟩ : ∃ N, x.nets = N := ⟨_, rfl⟩
    obtain ⟨L, hL⟩ : ∃ L, x.ds.length = L := ⟨_, rfl⟩
    obtain ⟨L2, hL2⟩ : ∃ L, x.ps.length = L := ⟨_, rfl⟩
    obtain ⟨NY, hNY⟩ : ∃ N, y.nets = N := ⟨_, rfl⟩
    obtain ⟨L3, hL3⟩ : ∃ L, y.ds.length = L := ⟨_, rfl⟩
    obtain ⟨L4, hL4⟩ : ∃ L, y.ps.length = L := ⟨_, rfl⟩
    rw [hN, hL, hL2] at HX1 ⊢
    rw [hNY, hL3, hL4] at HY1 ⊢
    clear hN hL hL2 hNY hL3 hL4 hxp hxn hyp hyn HDR HBG HB
    obtain ⟨w2, hw2⟩ : ∃ z, z = (w1.alloc (.cells #[.int .i64 N, .slice a1 L c1, .slice a2 L2 c2] 27)).alloc (.cells #[.int .i64 NY, .slice a3 L3 c3, .slice a4 L4 c4] 27) := ⟨_, rfl⟩
    have hal : Below w1.heap.size w1 w2 := by rw [hw2]; exact ((Below.refl _ w1).alloc (Nat.le_refl _) _).alloc (by simp) _
    have kT : Blk w2 w1.heap.size #[.int .i64 N, .slice a1 L c1, .slice a2 L2 c2] 27 := by rw [hw2]; exact (Blk.new _ rfl).past _
    have kU : Blk w2 (w1.heap.size + 1) #[.int .i64 NY, .slice a3 L3 c3, .slice a4 L4 c4] 27 := by rw [hw2]; exact Blk.new _ (by simp)
    have HX2 := Lib.hid (HX1.out.by hal)
    have HY2 := Lib.hid (HY1.out.by hal)
    have hb2 := below_on hal hb1
    clear hal HX1 HY1 hb1
    rw [hw2] at kT kU
    have HW2 := Lib.hid hw2
    clear hw2
    have qT := kT.cell
    have lT := kT.lt
    have qU := kU.cell
    have lU := kU.lt
    go_wp2_with fail
    (try rw [← HW2.out])
    rw [← HW2.out] at kT kU
    clear HW2 qT lT qU lU
    generalize w1.heap.size = T at *
    rcases HMF with ⟨e1, e2, e3⟩ | ⟨e1, e2, k, m1, m2, e3, k1, k2⟩ | ⟨e1, k, m1, m2, c, e3, hk⟩ | ⟨e1, e3⟩
    · have HL := isoB_len e2
      have HLi := Lib.hid HL
      rw [e2] at HII HSI
      clear HL e2
      rw [e1] at HCM
      rw [e3] at HXP
      generalize cmpR x y = R at *
      refine (HCM.out _ _ w2 HX2.out HY2.out).mono ?_
      rintro e w3 ⟨v', rfl, hO, hb3⟩
      have hma := hO.ma
      obtain ⟨f1, g1, f2, g2, rfl⟩ := hma.sized
      have HM3 := Lib.hid hma
      obtain ⟨r1, hr1⟩ : ∃ r, R.1.length = r := ⟨_, rfl⟩
      obtain ⟨r2, hr2⟩ : ∃ r, R.2.length = r := ⟨_, rfl⟩
      rw [hr1, hr2] at HM3 ⊢
      have HR := Lib.hid (And.intro hr1 hr2)
      have hal : Below w3.heap.size w3 (w3.alloc (.cells #[.slice f1 r1 g1, .slice f2 r2 g2] 32)) := (Below.refl _ w3).alloc (Nat.le_refl _) _
      have kM4 : Blk (w3.alloc (.cells #[.slice f1 r1 g1, .slice f2 r2 g2] 32)) w3.heap.size #[.slice f1 r1 g1, .slice f2 r2 g2] 32 := Blk.new _ rfl
      have kT4 := Blk.by hal (Blk.by hb3 kT)
      have kU4 := Blk.by hal (Blk.by hb3 kU)
      have HX4 := Lib.hid ((HX2.out.by hb3).by hal)
      have HY4 := Lib.hid ((HY2.out.by hb3).by hal)
      have HM4 := Lib.hid (HM3.out.by hal)
      have hb4 := below_on hal (below_on hb3 hb2)
      clear hO hma hb3 hr1 hr2 hal kT kU HX2 HY2 HM3 hb2 e1 e3 HCM
      have qT := kT4.cell
      have lT := kT4.lt
      have qU := kU4.cell
      have lU := kU4.lt
      go_wp2_with fail
      generalize w3.alloc (.cells #[.slice f1 r1 g1, .slice f2 r2 g2] 32) = w4 at *
      generalize w3.heap.size = M at *
      clear qT lT qU lU
      refine (HXP.out _ _ w4 HX4.out HY4.out).mono ?_
      rintro e w5 ⟨rfl, hb5⟩
      have hal : Below w5.heap.size w5 (w5.alloc (.cells #[.int .i64 0, .int .i64 0, .int .i64 0] 36)) := (Below.refl _ w5).alloc (Nat.le_refl _) _
      have kX6 : Blk (w5.alloc (.cells #[.int .i64 0, .int .i64 0, .int .i64 0] 36)) w5.heap.size #[.int .i64 0, .int .i64 0, .int .i64 0] 36 := Blk.new _ rfl
      have kT6 := Blk.by hal (Blk.by hb5 kT4)
      have kU6 := Blk.by hal (Blk.by hb5 kU4)
      have kM6 := Blk.by hal (Blk.by hb5 kM4)
      have HX6 := Lib.hid ((HX4.out.by hb5).by hal)
      have HY6 := Lib.hid ((HY4.out.by hb5).by hal)
      have HM6 := Lib.hid ((HM4.out.by hb5).by hal)
      have hb6 := below_on hal (below_on hb5 hb4)
      clear hb5 hal kT4 kU4 kM4 HX4 HY4 HM4 hb4 HXP
      have qT := kT6.cell
      have lT := kT6.lt
      have qU := kU6.cell
      have lU := kU6.lt
      have qM := kM6.cell
      have lM := kM6.lt
      go_wp2_with fail
      generalize w5.alloc (.cells #[.int .i64 0, .int .i64 0, .int .i64 0] 36) = w6 at *
      generalize w5.heap.size = X at *
      clear qT lT qU lU qM lM
      refine (HII.out _ _ _ w6 HX6.out HY6.out HM6.out HLi.out.1 HLi.out.2).mono ?_
      rintro e w7 ⟨rfl, hb7⟩
      have kT7 := Blk.by hb7 kT6
      have kU7 := Blk.by hb7 kU6
      have kM7 := Blk.by hb7 kM6
      have kX7 := Blk.by hb7 kX6
      have HX7 := Lib.hid (HX6.out.by hb7)
      have HY7 := Lib.hid (HY6.out.by hb7)
      have HM7 := Lib.hid (HM6.out.by hb7)
      have hbw7 := below_on hb7 hb6
      clear hb7 kT6 kU6 kM6 kX6 HX6 HY6 HM6 hb6
      have qT := kT7.cell
      have lT := kT7.lt
      have qU := kU7.cell
      have lU := kU7.lt
      have qM := kM7.cell
      have lM := kM7.lt
      go_wp2_with fail
      clear qT lT qU lU qM lM
      refine (HSI.out _ _ _ w7 HX7.out HY7.out HM7.out HLi.out.1 HLi.out.2).mono ?_
      rintro e w8 ⟨rfl, hb8⟩
      have kX8 := Blk.by hb8 kX7
      have hbw8 := below_on hb8 hbw7
      clear hb8 kX7 kT7 kU7 kM7 HX7 HY7 HM7 hbw7
      have qX := kX8.cell
      have lX := kX8.lt
      go_wp2
      go_ret
      exact ⟨rfl, hbw8⟩
    · clear HII HSI
      rw [e1] at HCM
      rw [e3] at HXP
      have HE2 := Lib.hid e2
      clear e2
      generalize cmpR x y = R at *
      refine (HCM.out _ _ w2 HX2.out HY2.out).mono ?_
      rintro e w3 ⟨v', rfl, hO, hb3⟩
      have hma := hO.ma
      obtain ⟨f1, g1, f2, g2, rfl⟩ := hma.sized
      have HM3 := Lib.hid hma
      obtain ⟨r1, hr1⟩ : ∃ r, R.1.length = r := ⟨_, rfl⟩
      obtain ⟨r2, hr2⟩ : ∃ r, R.2.length = r := ⟨_, rfl⟩
      rw [hr1, hr2] at HM3 ⊢
      have HR := Lib.hid (And.intro hr1 hr2)
      have hal : Below w3.heap.size w3 (w3.alloc (.cells #[.slice f1 r1 g1, .slice f2 r2 g2] 32)) := (Below.refl _ w3).alloc (Nat.le_refl _) _
      have kM4 : Blk (w3.alloc (.cells #[.slice f1 r1 g1, .slice f2 r2 g2] 32)) w3.heap.size #[.slice f1 r1 g1, .slice f2 r2 g2] 32 := Blk.new _ rfl
      have kT4 := Blk.by hal (Blk.by hb3 kT)
      have kU4 := Blk.by hal (Blk.by hb3 kU)
      have HX4 := Lib.hid ((HX2.out.by hb3).by hal)
      have HY4 := Lib.hid ((HY2.out.by hb3).by hal)
      have HM4 := Lib.hid (HM3.out.by hal)
      have hb4 := below_on hal (below_on hb3 hb2)
      clear hO hma hb3 hr1 hr2 hal kT kU HX2 HY2 HM3 hb2 e1 e3 HCM
      have qT := kT4.cell
      have lT := kT4.lt
      have qU := kU4.cell
      have lU := kU4.lt
      go_wp2_with fail
      generalize w3.alloc (.cells #[.slice f1 r1 g1, .slice f2 r2 g2] 32) = w4 at *
      generalize w3.heap.size = M at *
      clear qT lT qU lU
      refine (HXP.out _ _ w4 HX4.out HY4.out).mono ?_
      rintro e w5 ⟨rfl, hb5⟩
      have hal : Below w5.heap.size w5 (w5.alloc (.cells #[.int .i64 k, .int .i64 m1, .int .i64 m2] 36)) := (Below.refl _ w5).alloc (Nat.le_refl _) _
      have kX6 : Blk (w5.alloc (.cells #[.int .i64 k, .int .i64 m1, .int .i64 m2] 36)) w5.heap.size #[.int .i64 k, .int .i64 m1, .int .i64 m2] 36 := Blk.new _ rfl
      have kT6 := Blk.by hal (Blk.by hb5 kT4)
      have kU6 := Blk.by hal (Blk.by hb5 kU4)
      have kM6 := Blk.by hal (Blk.by hb5 kM4)
      have HX6 := Lib.hid ((HX4.out.by hb5).by hal)
      have HY6 := Lib.hid ((HY4.out.by hb5).by hal)
      have HM6 := Lib.hid ((HM4.out.by hb5).by hal)
      have hb6 := below_on hal (below_on hb5 hb4)
      clear hb5 hal kT4 kU4 kM4 HX4 HY4 HM4 hb4 HXP
      have hr0 : r1 = 0 := by
        have h1 := HR.out.1
        rw [HE2.out] at h1
        exact h1.symm
      subst hr0
      clear HX6 HY6 HM6 HR HE2
      have qM := kM6.cell
      have lM := kM6.lt
      have qX := kX6.cell
      have lX := kX6.lt
      go_wp2
      go_ret
      exact ⟨rfl, hb6⟩
    · rcases hk with rfl | ⟨rfl, k1, k2⟩
      · clear HII HSI
        rw [e1] at HCM
        rw [e3] at HXP
        generalize cmpR x y = R at *
        refine (HCM.out _ _ w2 HX2.out HY2.out).mono ?_
        rintro e w3 ⟨v', rfl, hO, hb3⟩
        have hma := hO.ma
        obtain ⟨f1, g1, f2, g2, rfl⟩ := hma.sized
        have HM3 := Lib.hid hma
        obtain ⟨r1, hr1⟩ : ∃ r, R.1.length = r := ⟨_, rfl⟩
        obtain ⟨r2, hr2⟩ : ∃ r, R.2.length = r := ⟨_, rfl⟩
        rw [hr1, hr2] at HM3 ⊢
        have HR := Lib.hid (And.intro hr1 hr2)
        have hal : Below w3.heap.size w3 (w3.alloc (.cells #[.slice f1 r1 g1, .slice f2 r2 g2] 32)) := (Below.refl _ w3).alloc (Nat.le_refl _) _
        have kM4 : Blk (w3.alloc (.cells #[.slice f1 r1 g1, .slice f2 r2 g2] 32)) w3.heap.size #[.slice f1 r1 g1, .slice f2 r2 g2] 32 := Blk.new _ rfl
        have kT4 := Blk.by hal (Blk.by hb3 kT)
        have kU4 := Blk.by hal (Blk.by hb3 kU)
        have HX4 := Lib.hid ((HX2.out.by hb3).by hal)
        have HY4 := Lib.hid ((HY2.out.by hb3).by hal)
        have HM4 := Lib.hid (HM3.out.by hal)
        have hb4 := below_on hal (below_on hb3 hb2)
        clear hO hma hb3 hr1 hr2 hal kT kU HX2 HY2 HM3 hb2 e1 e3 HCM
        have qT := kT4.cell
        have lT := kT4.lt
        have qU := kU4.cell
        have lU := kU4.lt
        go_wp2_with fail
        generalize w3.alloc (.cells #[.slice f1 r1 g1, .slice f2 r2 g2] 32) = w4 at *
        generalize w3.heap.size = M at *
        clear qT lT qU lU
        refine (HXP.out _ _ w4 HX4.out HY4.out).mono ?_
        rintro e w5 ⟨rfl, hb5⟩
        have hal : Below w5.heap.size w5 (w5.alloc (.cells #[.int .i64 k, .int .i64 m1, .int .i64 m2] 36)) := (Below.refl _ w5).alloc (Nat.le_refl _) _
        have kX6 : Blk (w5.alloc (.cells #[.int .i64 k, .int .i64 m1, .int .i64 m2] 36)) w5.heap.size #[.int .i64 k, .int .i64 m1, .int .i64 m2] 36 := Blk.new _ rfl
        have kT6 := Blk.by hal (Blk.by hb5 kT4)
        have kU6 := Blk.by hal (Blk.by hb5 kU4)
        have kM6 := Blk.by hal (Blk.by hb5 kM4)
        have HX6 := Lib.hid ((HX4.out.by hb5).by hal)
        have HY6 := Lib.hid ((HY4.out.by hb5).by hal)
        have HM6 := Lib.hid ((HM4.out.by hb5).by hal)
        have hb6 := below_on hal (below_on hb5 hb4)
        clear hb5 hal kT4 kU4 kM4 HX4 HY4 HM4 hb4 HXP
        clear HX6 HY6 HM6 HR
        have qX := kX6.cell
        have lX := kX6.lt
        go_wp2
        go_ret
        exact ⟨rfl, hb6⟩
      · clear HII HSI
        rw [e1] at HCM
        rw [e3] at HXP
        generalize cmpR x y = R at *
        refine (HCM.out _ _ w2 HX2.out HY2.out).mono ?_
        rintro e w3 ⟨v', rfl, hO, hb3⟩
        have hma := hO.ma
        obtain ⟨f1, g1, f2, g2, rfl⟩ := hma.sized
        have HM3 := Lib.hid hma
        obtain ⟨r1, hr1⟩ : ∃ r, R.1.length = r := ⟨_, rfl⟩
        obtain ⟨r2, hr2⟩ : ∃ r, R.2.length = r := ⟨_, rfl⟩
        rw [hr1, hr2] at HM3 ⊢
        have HR := Lib.hid (And.intro hr1 hr2)
        have hal : Below w3.heap.size w3 (w3.alloc (.cells #[.slice f1 r1 g1, .slice f2 r2 g2] 32)) := (Below.refl _ w3).alloc (Nat.le_refl _) _
        have kM4 : Blk (w3.alloc (.cells #[.slice f1 r1 g1, .slice f2 r2 g2] 32)) w3.heap.size #[.slice f1 r1 g1, .slice f2 r2 g2] 32 := Blk.new _ rfl
        have kT4 := Blk.by hal (Blk.by hb3 kT)
        have kU4 := Blk.by hal (Blk.by hb3 kU)
        have HX4 := Lib.hid ((HX2.out.by hb3).by hal)
        have HY4 := Lib.hid ((HY2.out.by hb3).by hal)
        have HM4 := Lib.hid (HM3.out.by hal)
        have hb4 := below_on hal (below_on hb3 hb2)
        clear hO hma hb3 hr1 hr2 hal kT kU HX2 HY2 HM3 hb2 e1 e3 HCM
        have qT := kT4.cell
        have lT := kT4.lt
        have qU := kU4.cell
        have lU := kU4.lt
        go_wp2_with fail
        generalize w3.alloc (.cells #[.slice f1 r1 g1, .slice f2 r2 g2] 32) = w4 at *
        generalize w3.heap.size = M at *
        clear qT lT qU lU
        refine (HXP.out _ _ w4 HX4.out HY4.out).mono ?_
        rintro e w5 ⟨rfl, hb5⟩
        have hal : Below w5.heap.size w5 (w5.alloc (.cells #[.int .i64 k, .int .i64 m1, .int .i64 m2] 36)) := (Below.refl _ w5).alloc (Nat.le_refl _) _
        have kX6 : Blk (w5.alloc (.cells #[.int .i64 k, .int .i64 m1, .int .i64 m2] 36)) w5.heap.size #[.int .i64 k, .int .i64 m1, .int .i64 m2] 36 := Blk.new _ rfl
        have kT6 := Blk.by hal (Blk.by hb5 kT4)
        have kU6 := Blk.by hal (Blk.by hb5 kU4)
        have kM6 := Blk.by hal (Blk.by hb5 kM4)
        have HX6 := Lib.hid ((HX4.out.by hb5).by hal)
        have HY6 := Lib.hid ((HY4.out.by hb5).by hal)
        have HM6 := Lib.hid ((HM4.out.by hb5).by hal)
        have hb6 := below_on hal (below_on hb5 hb4)
        clear hb5 hal kT4 kU4 kM4 HX4 HY4 HM4 hb4 HXP
        clear HX6 HY6 HM6 HR
        have qX := kX6.cell
        have lX := kX6.lt
        go_wp2
        go_ret
        exact ⟨rfl, hb6⟩
    · clear HII HSI
      rw [e1] at HCM
      rw [e3] at HXP
      generalize cmpR x y = R at *
      refine (HCM.out _ _ w2 HX2.out HY2.out).mono ?_
      rintro e w3 ⟨v', rfl, hO, hb3⟩
      have hma := hO.ma
      obtain ⟨f1, g1, f2, g2, rfl⟩ := hma.sized
      have HM3 := Lib.hid hma
      obtain ⟨r1, hr1⟩ : ∃ r, R.1.length = r := ⟨_, rfl⟩
      obtain ⟨r2, hr2⟩ : ∃ r, R.2.length = r := ⟨_, rfl⟩
      rw [hr1, hr2] at HM3 ⊢
      have HR := Lib.hid (And.intro hr1 hr2)
      have hal : Below w3.heap.size w3 (w3.alloc (.cells #[.slice f1 r1 g1, .slice f2 r2 g2] 32)) := (Below.refl _ w3).alloc (Nat.le_refl _) _
      have kM4 : Blk (w3.alloc (.cells #[.slice f1 r1 g1, .slice f2 r2 g2] 32)) w3.heap.size #[.slice f1 r1 g1, .slice f2 r2 g2] 32 := Blk.new _ rfl
      have kT4 := Blk.by hal (Blk.by hb3 kT)
      have kU4 := Blk.by hal (Blk.by hb3 kU)
      have HX4 := Lib.hid ((HX2.out.by hb3).by hal)
      have HY4 := Lib.hid ((HY2.out.by hb3).by hal)
      have HM4 := Lib.hid (HM3.out.by hal)
      have hb4 := below_on hal (below_on hb3 hb2)
      clear hO hma hb3 hr1 hr2 hal kT kU HX2 HY2 HM3 hb2 e1 e3 HCM
      have qT := kT4.cell
      have lT := kT4.lt
      have qU := kU4.cell
      have lU := kU4.lt
      go_wp2_with fail
      generalize w3.alloc (.cells #[.slice f1 r1 g1, .slice f2 r2 g2] 32) = w4 at *
      generalize w3.heap.size = M at *
      clear qT lT qU lU
      refine (HXP.out _ _ w4 HX4.out HY4.out).mono ?_
      rintro e w5 ⟨rfl, hb5⟩
      have hal : Below w5.heap.size w5 (w5.alloc (.cells #[.int .i64 0, .int .i64 0, .int .i64 0] 36)) := (Below.refl _ w5).alloc (Nat.le_refl _) _
      have kX6 : Blk (w5.alloc (.cells #[.int .i64 0, .int .i64 0, .int .i64 0] 36)) w5.heap.size #[.int .i64 0, .int .i64 0, .int .i64 0] 36 := Blk.new _ rfl
      have kT6 := Blk.by hal (Blk.by hb5 kT4)
      have kU6 := Blk.by hal (Blk.by hb5 kU4)
      have kM6 := Blk.by hal (Blk.by hb5 kM4)
      have HX6 := Lib.hid ((HX4.out.by hb5).by hal)
      have HY6 := Lib.hid ((HY4.out.by hb5).by hal)
      have HM6 := Lib.hid ((HM4.out.by hb5).by hal)
      have hb6 := below_on hal (below_on hb5 hb4)
      clear hb5 hal kT4 kU4 kM4 HX4 HY4 HM4 hb4 HXP
      clear HX6 HY6 HM6 HR
      have qX := kX6.cell
      have lX := kX6.lt
      go_wp2
      go_ret
      exact ⟨rfl, hb6⟩
end Go.Proofs.YtehmiekendkjmaaGreat.fnMatch
