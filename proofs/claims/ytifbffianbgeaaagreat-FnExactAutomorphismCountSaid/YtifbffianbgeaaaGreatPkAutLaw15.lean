/- Contracts and plain laws, part 15, for the statement's proof. -/
import Derived.Test.YtifbffianbgeaaaGreatPkAutLaw14
import Derived.Deep.DeepCutAuto
import Derived.Test.YtifbffianbgeaaaGreatRows
import Derived.WalkKit
import Derived.ProofKit
import Derived.OpenShut
namespace Go.Proofs.YtifbffianbgeaaaGreat
open Go.RowKit
set_option linter.unusedVariables false
set_option linter.unusedSimpArgs false
noncomputable def autR (x : Nl) : Int := if nlB x = true ∧ x.nets ≤ 7 ∧ x.ds.length ≤ 10 then ((autN x * wayTo x.ds x.ds.length : Nat) : Int) else -1
theorem srch_aut {x : Nl} (hx : nlB x = true) {n : Nat} (hnn : x.nets = n) : srcB x x (colB (refNet x).1.1 (refNet x).1.1) n false n [] = srchS x x false := by
  unfold srcB srchS
  rw [if_pos (fit_root hx hx rfl rfl), show x.nets.toNat = n by omega]
theorem aut_bd {x : Nl} (h : x.nets ≤ 7) (h0 : 0 ≤ x.nets) : autN x ≤ 823543 := by
  unfold autN srchS
  have h1 := srch_len (fit := fitB x x) (col := colB (refNet x).1.1 (refNet x).1.1) (n := x.nets.toNat) (one := false) x.nets.toNat []
  have h2 : x.nets.toNat ^ x.nets.toNat ≤ 7 ^ x.nets.toNat := Nat.pow_le_pow_left (by omega) _
  have h3 : 7 ^ x.nets.toNat ≤ 7 ^ 7 := Nat.pow_le_pow_right (by omega) (by omega)
  have h4 : (7 : Nat) ^ 7 = 823543 := by decide
  omega
theorem way_bd (ds : List Dv) (k : Nat) (h : ds.length ≤ 10) : 1 ≤ wayTo ds k ∧ wayTo ds k ≤ 10000000000 := by
  unfold wayTo
  have hl : ((ds.map nzD).take k).reverse.length ≤ 10 := by
    rw [List.length_reverse, List.length_take, List.length_map]; omega
  obtain ⟨a, b⟩ := wayR_le _ hl
  have h3 : 10 ^ ((ds.map nzD).take k).reverse.length ≤ 10 ^ 10 := Nat.pow_le_pow_right (by omega) hl
  have h4 : (10 : Nat) ^ 10 = 10000000000 := by decide
  exact ⟨a, by omega⟩
theorem nzc_step (ds : List Dv) (j : Nat) (e : Dv) (h : ds[j]? = some e) (t : Dv) : ((ds.take (j + 1)).map nzD).count t = ((ds.take j).map nzD).count t + if nzD e = t then 1 else 0 := by
  rw [take_map_snoc nzD ds j e h, List.count_append, List.count_singleton]
  simp only [beq_iff_eq]
set_option maxRecDepth 100000 in
set_option maxHeartbeats 8000000 in
theorem specAut_any (x : Nl) (v : Value) (w : World) (h : NlV w v x) (hok : ∀ p ∈ x.ps, p.ok) (hfx : Fits x.nets) :
    Calls Tryz.prog 22 #[v] w fun e w' => e = .returned (.int .i64 (autR x)) ∧ Below w.heap.size w w' := by
  have HV := Lib.hid h
  have HVX := Lib.hid (fun v w h => specNl_any x v w h hok hfx)
  have HRX := Lib.hid (fun v w h => specRefNet_any x v w h hok hfx)
  have HNM := Lib.hid (fun k wd ln sv zs w h hn => specNorm_any k wd ln sv zs w h hn)
  have HCP := Lib.hid (fun (x y : Dv) s1 s2 w h h' => specCompareDevices_any x.kind x.wd x.len y.kind y.wd y.len s1 s2 x.pins y.pins w h h')
  obtain ⟨s1, s2, ev, hds, _⟩ := id h
  have HDS := Lib.hid hds
  obtain ⟨a1, c1, a2, c2, rfl⟩ := h.sized
  simp only [Value.agg.injEq, Array.mk.injEq, List.cons.injEq, and_true] at ev
  obtain ⟨_, rfl, rfl⟩ := ev
  obtain ⟨R, hR⟩ : ∃ R, autR x = R := ⟨_, rfl⟩
  rw [hR]
  have HR := Lib.hid hR
  obtain ⟨nx, hnx⟩ : ∃ N, x.nets = N := ⟨_, rfl⟩
  obtain ⟨n, hn⟩ : ∃ N, x.ds.length = N := ⟨_, rfl⟩
  obtain ⟨p, hp⟩ : ∃ N, x.ps.length = N := ⟨_, rfl⟩
  rw [hnx, hn, hp] at HV ⊢
  rw [hn] at HDS
  have HE := Lib.hid (And.intro hnx hn)
  have kA1 : Blk (w.alloc (.cells #[.int .i64 nx, .slice a1 n c1, .slice a2 p c2] 35)) w.heap.size #[.int .i64 nx, .slice a1 n c1, .slice a2 p c2] 35 := Blk.new _ rfl
  have hb1w : Below w.heap.size w (w.alloc (.cells #[.int .i64 nx, .slice a1 n c1, .slice a2 p c2] 35)) := (Below.refl _ w).alloc (Nat.le_refl _) _
  clear h hok hfx hnx hn hp hR hds
  have qA := kA1.cell
  have lA := kA1.lt
  go_enter Tryz.func22, Tryz.ntmps22
  go_wp2_with fail
  generalize w.alloc (.cells #[.int .i64 nx, .slice a1 n c1, .slice a2 p c2] 35) = w1 at *
  refine (HVX.out _ _ (HV.out.by hb1w)).mono ?_
  rintro e w2 ⟨rfl, hb2⟩
  have kA2 := Blk.by hb2 kA1
  have hb2w := below_on hb2 hb1w
  clear hb2 kA1 hb1w qA lA
  have qA := kA2.cell
  have lA := kA2.lt
  by_cases hall : nlB x = true ∧ nx ≤ 7 ∧ n ≤ 10
  · obtain ⟨hx, h7, h10⟩ := hall
    have g1 : ¬ (7 : Int) < nx := by omega
    have g2 : ¬ (10 : Int) < (n : Int) := by omega
    have g3 : decide ((7 : Int) < nx) = false := decide_eq_false g1
    have g4 : decide ((10 : Int) < (n : Int)) = false := decide_eq_false g2
    have hRR : R = ((autN x * wayTo x.ds n : Nat) : Int) := by
      rw [← HR.out]; unfold autR
      rw [if_pos ⟨hx, by rw [HE.out.1]; exact h7, by rw [HE.out.2]; exact h10⟩, HE.out.2]
    have HRR := Lib.hid hRR
    have h0 : 0 ≤ nx := by have := (nlB_facts hx).1; have := HE.out.1; omega
    have HXB := Lib.hid hx
    have HAB := Lib.hid (aut_bd (x := x) (by rw [HE.out.1]; exact h7) (by rw [HE.out.1]; exact h0))
    have HWB := Lib.hid (fun k => way_bd x.ds k (by rw [HE.out.2]; exact h10))
    have HWS := Lib.hid (fun k d (h : x.ds[k]? = some d) => wayTo_step x.ds k d h)
    have HNC := Lib.hid (fun j e (h : x.ds[j]? = some e) t => nzc_step x.ds j e h t)
    rw [hx]
    clear hx hRR HR
    go_wp2_with fail
    refine (HRX.out _ _ (HV.out.by hb2w)).mono ?_
    rintro e w4 ⟨v4, rfl, hO4, hb4⟩
    obtain ⟨g1', h1', g2', h2', rfl⟩ := hO4.co.sized
    have HC4 := Lib.hid hO4.co
    obtain ⟨P1, hP⟩ : ∃ P, (refNet x).1.1.length = P := ⟨_, rfl⟩
    obtain ⟨Q1, hQ⟩ : ∃ P, (refNet x).1.2.length = P := ⟨_, rfl⟩
    rw [hP, hQ] at HC4 ⊢
    have HP1 := Lib.hid hP
    have hal : Below w4.heap.size w4 (w4.alloc (.cells #[.slice g1' P1 h1', .slice g2' Q1 h2'] 81)) := (Below.refl _ w4).alloc (Nat.le_refl _) _
    have kX5 : Blk (w4.alloc (.cells #[.slice g1' P1 h1', .slice g2' Q1 h2'] 81)) w4.heap.size #[.slice g1' P1 h1', .slice g2' Q1 h2'] 81 := Blk.new _ rfl
    have kA5 := Blk.by hal (Blk.by hb4 kA2)
    have HC5 := Lib.hid (HC4.out.by hal)
    have hb5 := below_on hal (below_on hb4 hb2w)
    clear hal hb4 hO4 HC4 hP hQ kA2 hb2w qA lA
    have qA := kA5.cell
    have lA := kA5.lt
    have qX := kX5.cell
    have lX := kX5.lt
    obtain ⟨_, _, ec, m1, m2⟩ := HC5.out
    simp only [Value.agg.injEq, Array.mk.injEq, List.cons.injEq, and_true] at ec
    obtain ⟨rfl, rfl⟩ := ec
    have HM1 := Lib.hid m1
    obtain ⟨N, hN⟩ : ∃ N : Nat, nx = N := ⟨nx.toNat, by omega⟩
    have hP1N : (refNet x).1.1.length = N := by have := (ref_lens HXB.out).1; have := HE.out.1; omega
    have HSE := Lib.hid (l30Search_any x x (refNet x).1.1 (refNet x).1.1 false N HXB.out HXB.out rfl rfl (by rw [HE.out.1]; exact hN) hP1N hP1N (.inr (by omega)) N)
    have hsr := srch_aut (n := N) HXB.out (by rw [HE.out.1]; exact hN)
    clear m1 m2 hP1N hN
    go_wp2_with fail
    generalize w4.alloc (.cells #[.slice g1' P1 h1', .slice g2' Q1 h2'] 81) = w5 at *
    generalize w4.heap.size = X at *
    have hal : Below w5.heap.size w5 (w5.alloc (.cells #[] 2)) := (Below.refl _ w5).alloc (Nat.le_refl _) _
    have hs5 := hb5.size
    refine (HSE.out [] _ _ _ _ _ w.heap.size _ ((HV.out.by hb5).by hal) ((HV.out.by hb5).by hal) (HM1.out.by hal) (HM1.out.by hal) (.inl ⟨_, _, rfl, rfl⟩) (by simp; omega) ⟨by simp, by simp⟩ (by simp)).mono ?_
    rintro e w9 ⟨v9, rfl, lo9, hlo9, hO9, hb9⟩
    rw [hsr] at hO9
    have hb9' : Below w5.heap.size w5 w9 := below_on hb9 hal
    have kA9 := Blk.by hb9' kA5
    have hb9w := below_on hb9' hb5
    obtain ⟨ga, cM, rfl⟩ := hO9.sized
    have HAN := Lib.hid (show (srchS x x false).length = autN x from rfl)
    rw [HAN.out]
    obtain ⟨T, hT⟩ : ∃ T, autN x = T := ⟨_, rfl⟩
    rw [hT] at HAB HRR ⊢
    have hTb := HAB.out
    clear hal hb9 hb9' hsr qA lA qX lX kX5 kA5 HC5 hO9 hT HAN HSE HAB
    have HW0 := Lib.hid (show wayTo x.ds 0 = 1 from rfl)
    go_wp2
    go_loopw [5, 6] (fun cv iv wr => ∃ (k c : Nat), k ≤ n ∧ iv = .int .i64 (k : Int) ∧ cv = .int .i64 (c : Int) ∧ Hid (c = T * wayTo x.ds k) ∧ Blk wr w.heap.size #[.int .i64 nx, .slice a1 n c1, .slice a2 p c2] 35 ∧ Below w.heap.size w wr) (fun _ iv _ => n - (intOf iv).toNat)
    case atStart => exact ⟨0, T, Nat.zero_le _, rfl, rfl, Lib.hid (by rw [HW0.out, Nat.mul_one]), kA9, hb9w⟩
    case round =>
      obtain ⟨k, c, hk, rfl, rfl, HCC, kA, hb⟩ := hrel
      have qA := kA.cell
      have lA := kA.lt
      by_cases hlt : k < n
      · have i1 : (k : Int) < (n : Int) := by omega
        have i2 : decide (k < n) = true := decide_eq_true hlt
        obtain ⟨d, hd⟩ : ∃ d, x.ds[k]? = some d := ⟨_, List.getElem?_eq_getElem (by rw [HE.out.2]; exact hlt)⟩
        have HWS1 := Lib.hid (HWS.out k d hd)
        have HPB := Lib.hid (fun e (he : e ∈ x.ds) => dvB_pins ((nlB_facts HXB.out).2.2.2.1 e he))
        have hdp := HPB.out d (List.mem_of_getElem? hd)
        rcases HDS.out with ⟨_, _, _, h2⟩ | ⟨xb, xo, xc, he, _, _, h4⟩
        · rw [h2] at hd; simp at hd
        obtain ⟨rfl, rfl⟩ : a1 = some ⟨xb, xo, none⟩ ∧ c1 = xc := by
          simp only [Value.slice.injEq] at he
          exact ⟨he.1, he.2.2⟩
        have HDX := Lib.hid (h4 k d hd)
        have HAT := Lib.hid h4
        have HDP := Lib.hid hdp
        clear hd he h4 hdp
        go_wp2
        obtain ⟨wo, rfl⟩ : ∃ z : World, z = wr := ⟨_, rfl⟩
        go_loopw [7, 8] (fun sv jv wr => ∃ (j s : Nat), j ≤ k ∧ jv = .int .i64 (j : Int) ∧ sv = .int .i64 (s : Int) ∧ s ≤ j + 1 ∧ Hid (s = ((x.ds.take j).map nzD).count (nzD d) + 1) ∧ Below wo.heap.size wo wr) (fun _ jv _ => k - (intOf jv).toNat)
        case atStart => exact ⟨0, 1, Nat.zero_le _, rfl, rfl, by omega, Lib.hid (by simp), blwT⟩
        case round =>
          obtain ⟨j, s, hj, rfl, rfl, hsj, HSS, hbo⟩ := hrel
          have hbw := below_on hbo hb
          have kAj := Blk.by hbo kA
          by_cases hjt : j < k
          · have j1 : (j : Int) < (k : Int) := by omega
            have j2 : decide (j < n) = true := decide_eq_true (by omega)
            have j3 : (j : Int) < (n : Int) := by omega
            obtain ⟨e, he⟩ : ∃ e, x.ds[j]? = some e := ⟨_, List.getElem?_eq_getElem (by rw [HE.out.2]; omega)⟩
            have HNC1 := Lib.hid (HNC.out j e he (nzD d))
            have hep := HPB.out e (List.mem_of_getElem? he)
            have HEP := Lib.hid hep
            obtain ⟨sx, x1, x2, x3, x4, x5⟩ := HDX.out.by hbw
            obtain ⟨sy, y1, y2, y3, y4, y5⟩ := (HAT.out j e he).by hbw
            obtain ⟨px, cx, rfl⟩ := x5.len
            obtain ⟨py, cy, rfl⟩ := y5.len
            have HXP := Lib.hid x5
            have HYP := Lib.hid y5
            have lx := lt_of_cell x1
            have ly := lt_of_cell y1
            dsimp only at lx ly
            have qAj := kAj.cell
            have lAj := kAj.lt
            clear he hep x5 y5
            go_upto_region 12 with fail
            have hS : (fun w' : World => Below wr.heap.size wr w') { wr with drawn := wr.drawn + 1 } := below_of_drewN wr 1
            refine wp_region_any (by kernel_rfl) (wpAny_of_E (S := fun w' : World => Below wr.heap.size wr w') (l := 13) _ _ _ _ ?_)
            change wpAnyE _ _ _ _ _ _ _ _ _ wr.drew
            refine wpAnyE_takeL (i := 0) (v := ?_) rfl (by kernel_rfl) (fun _ _ _ h => h) (Or.inl ⟨by rfl, ?_⟩) hS ?_
            rotate_left
            · intro w hSw; (try dsimp only at hSw); obtain ⟨hcS, hfS⟩ := bcell hSw; clear hSw; go_simp; (try with_reducible rfl)
            try simp only [Act.put, List.setIfInBounds_toArray, List.set_cons_zero, List.set_cons_succ]
            refine wpAnyE_takeL (i := 1) (v := ?_) rfl (by kernel_rfl) (fun _ _ _ h => h) (Or.inl ⟨by rfl, ?_⟩) hS ?_
            rotate_left
            · intro w hSw; (try dsimp only at hSw); obtain ⟨hcS, hfS⟩ := bcell hSw; clear hSw; go_simp; (try with_reducible rfl)
            try simp only [Act.put, List.setIfInBounds_toArray, List.set_cons_zero, List.set_cons_succ]
            refine wpAnyE_takeL (i := 2) (v := ?_) rfl (by kernel_rfl) (fun _ _ _ h => h) (Or.inl ⟨by rfl, ?_⟩) hS ?_
            rotate_left
            · intro w hSw; (try dsimp only at hSw); obtain ⟨hcS, hfS⟩ := bcell hSw; clear hSw; go_simp; (try with_reducible rfl)
            try simp only [Act.put, List.setIfInBounds_toArray, List.set_cons_zero, List.set_cons_succ]
            refine wpAnyE_takeL (i := 3) (v := ?_) rfl (by kernel_rfl) (fun _ _ _ h => h) (Or.inl ⟨by rfl, ?_⟩) hS ?_
            rotate_left
            · intro w hSw; (try dsimp only at hSw); obtain ⟨hcS, hfS⟩ := bcell hSw; clear hSw; go_simp; (try with_reducible rfl)
            try simp only [Act.put, List.setIfInBounds_toArray, List.set_cons_zero, List.set_cons_succ]
            refine wpAnyE_takeL (i := 4) (v := ?_) rfl (by kernel_rfl) (fun _ _ _ h => h) (Or.inl ⟨by rfl, ?_⟩) hS ?_
            rotate_left
            · intro w hSw; (try dsimp only at hSw); obtain ⟨hcS, hfS⟩ := bcell hSw; clear hSw; go_simp; (try with_reducible rfl)
            try simp only [Act.put, List.setIfInBounds_toArray, List.set_cons_zero, List.set_cons_succ]
            refine wpAnyE_takeL (i := 6) (v := ?_) rfl (by kernel_rfl) (fun _ _ _ h => h) (Or.inl ⟨by rfl, ?_⟩) hS ?_
            rotate_left
            · intro w hSw; (try dsimp only at hSw); obtain ⟨hcS, hfS⟩ := bcell hSw; clear hSw; go_simp; (try with_reducible rfl)
            try simp only [Act.put, List.setIfInBounds_toArray, List.set_cons_zero, List.set_cons_succ]
            refine wpAnyE_takeL (i := 7) (v := ?_) rfl (by kernel_rfl) (fun _ _ _ h => h) (Or.inl ⟨by rfl, ?_⟩) hS ?_
            rotate_left
            · intro w hSw; (try dsimp only at hSw); obtain ⟨hcS, hfS⟩ := bcell hSw; clear hSw; go_simp; (try with_reducible rfl)
            try simp only [Act.put, List.setIfInBounds_toArray, List.set_cons_zero, List.set_cons_succ]
            refine wpAnyE_takeL (i := 8) (v := ?_) rfl (by kernel_rfl) (fun _ _ _ h => h) (Or.inl ⟨by rfl, ?_⟩) hS ?_
            rotate_left
            · intro w hSw; (try dsimp only at hSw); obtain ⟨hcS, hfS⟩ := bcell hSw; clear hSw; go_simp; (try with_reducible rfl)
            try simp only [Act.put, List.setIfInBounds_toArray, List.set_cons_zero, List.set_cons_succ]
            refine wpAnyE_takeL (i := 9) (v := ?_) rfl (by kernel_rfl) (fun _ _ _ h => h) (Or.inl ⟨by rfl, ?_⟩) hS ?_
            rotate_left
            · intro w hSw; (try dsimp only at hSw); obtain ⟨hcS, hfS⟩ := bcell hSw; clear hSw; go_simp; (try with_reducible rfl)
            try simp only [Act.put, List.setIfInBounds_toArray, List.set_cons_zero, List.set_cons_succ]
            refine wpAnyE_takeL (i := 10) (v := ?_) rfl (by kernel_rfl) (fun _ _ _ h => h) (Or.inl ⟨by rfl, ?_⟩) hS ?_
            rotate_left
            · intro w hSw; (try dsimp only at hSw); obtain ⟨hcS, hfS⟩ := bcell hSw; clear hSw; go_simp; (try with_reducible rfl)
            try simp only [Act.put, List.setIfInBounds_toArray, List.set_cons_zero, List.set_cons_succ]
            refine wpAnyE_oneL (k := 5) (by kernel_rfl) rfl (fun K hK => ?_)
            go_simp
            go_at_call 60
            refine (HNM.out d.kind d.wd d.len _ d.pins _ (HXP.out.by (below_of_drewN wr 1)) (by have := HDP.out.1; omega)).mono ?_
            rintro e_ w3 ⟨v3, rfl, hO3, hb3⟩
            have HO3 := Lib.hid hO3.sl
            have hb3' : Below wr.heap.size wr w3 := below_on hb3 (below_of_drewN wr 1)
            clear hS hO3 hb3
            refine hK.out _ _ (fun _ => hb3') ?_
            try simp only [Act.put, List.setIfInBounds_toArray, List.set_cons_zero, List.set_cons_succ]
            refine wpAnyE_oneL (k := 11) (by kernel_rfl) rfl (fun K hK => ?_)
            go_simp
            go_at_call 60
            refine (HNM.out e.kind e.wd e.len _ e.pins _ (HYP.out.by hb3') (by have := HEP.out.1; omega)).mono ?_
            rintro e_ w4 ⟨v4, rfl, hO4, hb4⟩
            have HO4 := Lib.hid hO4.sl
            have HO3' := Lib.hid (HO3.out.by hb4)
            have hb4' := below_on hb4 hb3'
            clear hO4 hb4 HO3 hb3'
            refine hK.out _ _ (fun _ => hb4') ?_
            try simp only [Act.put, List.setIfInBounds_toArray, List.set_cons_zero, List.set_cons_succ]
            refine wpAnyE_oneL (k := 12) (by kernel_rfl) rfl (fun K hK => ?_)
            go_simp
            go_at_call 59
            refine (HCP.out (nzD d) (nzD e) _ _ _ HO3'.out HO4.out).mono ?_
            rintro e_ w5 ⟨rfl, hb5⟩
            have hb5' := below_on hb5 hb4'
            have hbo5 := below_on hb5' hbo
            obtain ⟨RC, hRC⟩ : ∃ R, dcf (nzD d) (nzD e) = R := ⟨_, rfl⟩
            rw [show devcmp (nzD d).kind (nzD e).kind (nzD d).pins (nzD e).pins (nzD d).wd (nzD e).wd (nzD d).len (nzD e).len = RC from hRC]
            have HRC := Lib.hid hRC
            clear hb5 hb4' HO3' HO4 hRC
            refine hK.out _ _ (fun _ => hb5') ?_
            try simp only [Act.put, List.setIfInBounds_toArray, List.set_cons_zero, List.set_cons_succ]
            refine wpAnyE_oneL (k := 13) (by kernel_rfl) rfl (fun K hK => ?_)
            go_simp
            refine hK.out _ _ (fun h => absurd rfl h) ?_
            refine wpAnyE_done (by kernel_rfl) ?_ _
            clear x1 x2 x3 x4 y1 y2 y3 y4 qAj lAj lx ly HXP HYP
            by_cases hr0 : RC = 0
            · subst hr0
              have heq : nzD e = nzD d := (dcf_zero.1 HRC.out).symm
              have hst := HNC1.out
              rw [if_pos heq] at hst
              have HST := Lib.hid hst
              clear heq hst
              go_wp2
              exact ⟨⟨j + 1, s + 1, by omega, by go_num, by go_num, by omega, Lib.hid (by rw [HST.out, HSS.out]), hbo5⟩, by simp [intOf]; omega⟩
            · have r1 : (RC == 0) = false := by simpa using hr0
              have hne : ¬ nzD e = nzD d := fun q => hr0 (by rw [← HRC.out, q]; exact dcf_zero.2 rfl)
              have hst := HNC1.out
              rw [if_neg hne, Nat.add_zero] at hst
              have HST := Lib.hid hst
              clear hne hst hr0
              go_wp2
              exact ⟨⟨j + 1, s, by omega, by go_num, by rfl, by omega, Lib.hid (by rw [HST.out, HSS.out]), hbo5⟩, by simp [intOf]; omega⟩
          · obtain rfl : k = j := by omega
            have j1 : ¬ (k : Int) < (k : Int) := by omega
            obtain ⟨c', hc'⟩ : ∃ c' : Nat, T * wayTo x.ds (k + 1) = c' := ⟨_, rfl⟩
            have hcb : c' ≤ 823543 * 10000000000 := by rw [← hc']; exact Nat.mul_le_mul hTb (HWB.out (k + 1)).2
            have hcs : (c : Int) * (s : Int) = (c' : Int) := by
              rw [← hc', HWS1.out, HCC.out, HSS.out]
              rw [Nat.mul_comm ((List.count (nzD d) (List.map nzD (List.take k x.ds))) + 1) (wayTo x.ds k), ← Nat.mul_assoc]
              push_cast
              rfl
            have HC' := Lib.hid hc'
            have hw1 : IntKind.i64.wrap ((c : Int) * (s : Int)) = (c' : Int) := by rw [hcs]; simp [IntKind.wrap, IntKind.bits, IntKind.signed]; omega
            clear hc' hjt
            go_wp2
            exact ⟨⟨k + 1, c', by omega, by go_num, by first | rfl | (simp [hcs]) | go_num, Lib.hid (by rw [HC'.out]), kAj, hbw⟩, by simp [intOf]; omega⟩
      · obtain rfl : n = k := by omega
        have i1 : ¬ (n : Int) < (n : Int) := by omega
        go_wp2
        go_ret
        exact ⟨ret_i64 (by rw [HRR.out, HCC.out]), hb⟩
  · have hRR : R = -1 := by
      rw [← HR.out]; unfold autR
      rw [if_neg (by rw [HE.out.1, HE.out.2]; exact hall)]
    subst hRR
    cases hx : nlB x with
    | false =>
      clear hall
      go_wp2
      go_ret
      exact ⟨rfl, hb2w⟩
    | true =>
      by_cases h7 : nx ≤ 7
      · have g1 : ¬ (7 : Int) < nx := by omega
        have g3 : decide ((7 : Int) < nx) = false := decide_eq_false g1
        have h10 : ¬ n ≤ 10 := fun q => hall ⟨hx, h7, q⟩
        have g2 : (10 : Int) < (n : Int) := by omega
        have g4 : decide ((10 : Int) < (n : Int)) = true := decide_eq_true g2
        clear hall hx
        go_wp2
        go_ret
        exact ⟨rfl, hb2w⟩
      · have g1 : (7 : Int) < nx := by omega
        have g3 : decide ((7 : Int) < nx) = true := decide_eq_true g1
        clear hall hx
        go_wp2
        go_ret
        exact ⟨rfl, hb2w⟩
set_option maxRecDepth 100000 in
theorem aut1_any (C : Nat) (k : Int) (sv : Value) (w : World) (kC : Blk w C #[.int .i64 k] 2) :
    Calls Tryz.prog 61 #[sv, .pointer (some ⟨C, 0, none⟩)] w fun e w' => e = .returned (.bool true) ∧ ∃ k', Blk w' C #[.int .i64 k'] 2 ∧ (0 ≤ k → k ≤ 1000000000 → k' = k + 1) ∧ Exc (fun b => b = C) w w' := by
  have cC := kC.cell
  have fC := kC.free
  have lC := kC.lt
  by_cases hk : 0 ≤ k ∧ k ≤ 1000000000
  · obtain ⟨h1, h2⟩ := hk
    go_enter Tryz.func61, Tryz.ntmps61
    go_wp2
    go_ret
    exact ⟨rfl, k + 1, kC.set1, fun _ _ => rfl, Exc.set (E := fun b => b = C) (Exc.refl _ w) C 0 _ (fun _ => rfl)⟩
  · go_enter Tryz.func61, Tryz.ntmps61
    go_wp2
    go_ret
    exact ⟨rfl, _, kC.set1, fun h1 h2 => absurd ⟨h1, h2⟩ hk, Exc.set (E := fun b => b = C) (Exc.refl _ w) C 0 _ (fun _ => rfl)⟩
def AutYd (C : Nat) (zs : List (List Int)) (w : World) : Prop := ∃ k : Int, Blk w C #[.int .i64 k] 2 ∧ (zs.length ≤ 1000000000 → k = zs.length)
theorem preB_self {x : Nl} (hx : nlB x = true) : preB x x = true := by
  have h := names_of (NlIso.self hx)
  unfold preB
  rw [decide_eq_true h]
  simp
set_option maxRecDepth 100000 in
set_option maxHeartbeats 8000000 in
theorem implAut_any (x : Nl) (v : Value) (w : World) (h : NlV w v x) (hok : ∀ p ∈ x.ps, p.ok) (hfx : Fits x.nets) :
    Calls Tryz.prog 23 #[v] w fun e w' => e = .returned (.int .i64 (autR x)) ∧ Below w.heap.size w w' := by
  have HV := Lib.hid h
  have HVX := Lib.hid (fun v w h => implNl_any x v w h hok hfx)
  have HNM := Lib.hid (fun (d : Dv) sv w (h : IntSl w sv d.pins) hn => implNorm_any d.kind d.wd d.len sv d.pins w h hn)
  have HCP := Lib.hid (fun (x y : Dv) s1 s2 w h h' => compareDevices_any x.kind x.wd x.len y.kind y.wd y.len s1 s2 x.pins y.pins w h h')
  obtain ⟨s1, s2, ev, hds, _⟩ := id h
  have HDS := Lib.hid hds
  obtain ⟨a1, c1, a2, c2, rfl⟩ := h.sized
  simp only [Value.agg.injEq, Array.mk.injEq, List.cons.injEq, and_true] at ev
  obtain ⟨_, rfl, rfl⟩ := ev
  obtain ⟨R, hR⟩ : ∃ R, autR x = R := ⟨_, rfl⟩
  rw [hR]
  have HR := Lib.hid hR
  obtain ⟨nx, hnx⟩ : ∃ N, x.nets = N := ⟨_, rfl⟩
  obtain ⟨n, hn⟩ : ∃ N, x.ds.length = N := ⟨_, rfl⟩
  obtain ⟨p, hp⟩ : ∃ N, x.ps.length = N := ⟨_, rfl⟩
  rw [hnx, hn, hp] at HV ⊢
  rw [hn] at HDS
  have HE := Lib.hid (And.intro hnx hn)
  have kA1 : Blk (w.alloc (.cells #[.int .i64 nx, .slice a1 n c1, .slice a2 p c2] 35)) w.heap.size #[.int .i64 nx, .slice a1 n c1, .slice a2 p c2] 35 := Blk.new _ rfl
  have hb1w : Below w.heap.size w (w.alloc (.cells #[.int .i64 nx, .slice a1 n c1, .slice a2 p c2] 35)) := (Below.refl _ w).alloc (Nat.le_refl _) _
  clear h hok hfx hnx hn hp hR hds
  have qA := kA1.cell
  have lA := kA1.lt
  go_enter Tryz.func23, Tryz.ntmps23
  go_wp2_with fail
  generalize w.alloc (.cells #[.int .i64 nx, .slice a1 n c1, .slice a2 p c2] 35) = w1 at *
  refine (HVX.out _ _ (HV.out.by hb1w)).mono ?_
  rintro e w2 ⟨rfl, hb2⟩
  have kA2 := Blk.by hb2 kA1
  have hb2w := below_on hb2 hb1w
  have hlA := kA2.lt
  clear hb2 kA1 hb1w qA lA
  have qA := kA2.cell
  have lA := kA2.lt
  by_cases hall : nlB x = true ∧ nx ≤ 7 ∧ n ≤ 10
  · obtain ⟨hx, h7, h10⟩ := hall
    have g1 : ¬ (7 : Int) < nx := by omega
    have g2 : ¬ (10 : Int) < (n : Int) := by omega
    have g3 : decide ((7 : Int) < nx) = false := decide_eq_false g1
    have g4 : decide ((10 : Int) < (n : Int)) = false := decide_eq_false g2
    have hRR : R = ((autN x * wayTo x.ds n : Nat) : Int) := by
      rw [← HR.out]; unfold autR
      rw [if_pos ⟨hx, by rw [HE.out.1]; exact h7, by rw [HE.out.2]; exact h10⟩, HE.out.2]
    have HRR := Lib.hid hRR
    have h0 : 0 ≤ nx := by have := (nlB_facts hx).1; have := HE.out.1; omega
    have HXB := Lib.hid hx
    have HAB := Lib.hid (aut_bd (x := x) (by rw [HE.out.1]; exact h7) (by rw [HE.out.1]; exact h0))
    have HWB := Lib.hid (fun k => way_bd x.ds k (by rw [HE.out.2]; exact h10))
    have HWS := Lib.hid (fun k d (h : x.ds[k]? = some d) => wayTo_step x.ds k d h)
    have HNC := Lib.hid (fun j e (h : x.ds[j]? = some e) t => nzc_step x.ds j e h t)
    rw [hx]
    clear hx hRR HR
    go_wp2_with fail
    have hal : Below w2.heap.size w2 (w2.alloc (.cells #[.int .i64 0] 2)) := (Below.refl _ w2).alloc (Nat.le_refl _) _
    have kC3 : Blk (w2.alloc (.cells #[.int .i64 0] 2)) w2.heap.size #[.int .i64 0] 2 := Blk.new _ rfl
    have hs3 : w2.heap.size < (w2.alloc (.cells #[.int .i64 0] 2)).heap.size := by simp
    have kA3 := Blk.by hal kA2
    have hb3w := below_on hal hb2w
    have hs2 := hb2w.size
    clear hal kA2 hb2w qA lA
    generalize w2.alloc (.cells #[.int .i64 0] 2) = w3 at *
    obtain ⟨C, hC⟩ : ∃ C, w2.heap.size = C := ⟨_, rfl⟩
    rw [hC] at kC3 hs3 hs2 hlA ⊢
    clear hC
    have HYC : Hid (YldC x x false (.agg #[.int .i64 nx, .slice a1 n c1, .slice a2 p c2]) (.agg #[.int .i64 nx, .slice a1 n c1, .slice a2 p c2]) 61 #[.pointer (some ⟨C, 0, none⟩)] (fun b => b = C) (AutYd C) w3) := Lib.hid {
      hV := fun w1 h1 => HV.out.by (h1.below hb3w (fun k hk (h : k = C) => by omega))
      hU := fun w1 h1 => HV.out.by (h1.below hb3w (fun k hk (h : k = C) => by omega))
      hYl := fun b (h : b = C) => by omega
      eg := enters_of Tryz.func61 (by kernel_rfl) rfl
      hY := fun hpre zs z sv w1 h1 h2 h3 h4 h5 h6 h7 => by
        obtain ⟨k, g1, g2⟩ := h1
        show Calls Tryz.prog 61 #[sv, .pointer (some ⟨C, 0, none⟩)] w1 _
        refine (aut1_any C k sv w1 g1).mono ?_
        rintro e w9 ⟨rfl, k', q1, q2, q3⟩
        refine ⟨rfl, ⟨k', q1, fun hl => ?_⟩, q3⟩
        rw [List.length_append, List.length_singleton] at hl ⊢
        have := g2 (by omega)
        have := q2 (by omega) (by omega)
        omega
      hYs := fun zs w1 w2 h1 h2 h3 => by
        obtain ⟨k, g1, g2⟩ := h1
        exact ⟨k, h3.blk g1 (show ¬ w3.heap.size ≤ C by omega), g2⟩
      h0 := ⟨0, kC3, fun _ => rfl⟩ }
    refine (isomorphisms_any x x false _ _ _ _ _ _ w3 HXB.out HXB.out (by rw [HE.out.2]; exact h10) (by rw [HE.out.2]; exact h10) HYC.out).mono ?_
    rintro e w4 ⟨rfl, hY4, hE4⟩
    have hb4w : Below w.heap.size w w4 := hE4.below hb3w (fun k hk (h : k = C) => by omega)
    have kA4 := hE4.blk kA3 (show ¬ w.heap.size = C by omega)
    obtain ⟨k4, kC4, hk4⟩ := hY4
    have hk4' : k4 = ((autN x : Nat) : Int) := by
      have e1 : (ismS x x false).length = autN x := by
        unfold ismS
        rw [if_pos (preB_self HXB.out)]
        rfl
      rw [e1] at hk4
      exact hk4 (by have := HAB.out; omega)
    obtain ⟨T, hT⟩ : ∃ T, autN x = T := ⟨_, rfl⟩
    rw [hT] at HAB HRR hk4'
    subst hk4'
    have hTb := HAB.out
    have hC4 : w.heap.size < C := by omega
    have hs4 := hE4.size
    clear hT HAB HYC hE4 kA3 kC3 hk4 hb3w
    have HW0 := Lib.hid (show wayTo x.ds 0 = 1 from rfl)
    have qA := kA4.cell
    have lA := kA4.lt
    go_wp2
    clear qA lA
    go_loopw [4, 31] (fun cv iv wr => ∃ (k c : Nat), k ≤ n ∧ iv = .int .i64 (k : Int) ∧ cv = .int .i64 (c : Int) ∧ Hid (c = wayTo x.ds k) ∧ Blk wr w.heap.size #[.int .i64 nx, .slice a1 n c1, .slice a2 p c2] 35 ∧ Blk wr C #[.int .i64 (T : Int)] 2 ∧ Below w.heap.size w wr) (fun _ iv _ => n - (intOf iv).toNat)
    case atStart => exact ⟨0, 1, Nat.zero_le _, rfl, rfl, Lib.hid HW0.out.symm, kA4, kC4, hb4w⟩
    case round =>
      clear kA4 kC4 hb4w
      obtain ⟨k, c, hk, rfl, rfl, HCC, kA, kC, hb⟩ := hrel
      have qA := kA.cell
      have lA := kA.lt
      by_cases hlt : k < n
      · have i1 : (k : Int) < (n : Int) := by omega
        have i2 : decide (k < n) = true := decide_eq_true hlt
        obtain ⟨d, hd⟩ : ∃ d, x.ds[k]? = some d := ⟨_, List.getElem?_eq_getElem (by rw [HE.out.2]; exact hlt)⟩
        have HWS1 := Lib.hid (HWS.out k d hd)
        have HPB := Lib.hid (fun e (he : e ∈ x.ds) => dvB_pins ((nlB_facts HXB.out).2.2.2.1 e he))
        have hdp := HPB.out d (List.mem_of_getElem? hd)
        rcases HDS.out with ⟨_, _, _, h2⟩ | ⟨xb, xo, xc, he, hcap, _, h4⟩
        · rw [h2] at hd; simp at hd
        obtain ⟨rfl, rfl⟩ : a1 = some ⟨xb, xo, none⟩ ∧ c1 = xc := by
          simp only [Value.slice.injEq] at he
          exact ⟨he.1, he.2.2⟩
        rw [HE.out.2] at hcap
        have i3 : (k : Int) ≤ (c1 : Int) := by omega
        have i4 : k ≤ c1 := by omega
        have i5 : decide (k ≤ c1) = true := decide_eq_true i4
        have HAT := Lib.hid h4
        have HDP := Lib.hid hdp
        obtain ⟨sx, x1, x2, x3, x4, x5⟩ := (h4 k d hd).by hb
        obtain ⟨px, cx, rfl⟩ := x5.len
        have HXP := Lib.hid x5
        obtain ⟨PX, hPX⟩ : ∃ P, d.pins.length = P := ⟨_, rfl⟩
        rw [hPX] at x2 HXP
        have HPXL := Lib.hid hPX
        have lx := lt_of_cell x1
        dsimp only at lx
        clear hd he h4 hdp x5 hPX hcap
        go_wp2
        obtain ⟨wo, hwo⟩ : ∃ z : World, z = wr.alloc (.cells #[.int .i64 d.kind, .slice px PX cx, .int .i64 d.wd, .int .i64 d.len] 62) := ⟨_, rfl⟩
        have kD0 : Blk wo wr.heap.size #[.int .i64 d.kind, .slice px PX cx, .int .i64 d.wd, .int .i64 d.len] 62 := by rw [hwo]; exact Blk.new _ rfl
        have hbo1 : Below wr.heap.size wr wo := by rw [hwo]; exact (Below.refl _ wr).alloc (Nat.le_refl _) _
        rw [← hwo]
        have kA2 := Blk.by hbo1 kA
        have kC2 := Blk.by hbo1 kC
        have HXP2 := Lib.hid (HXP.out.by hbo1)
        have hbow := below_on hbo1 hb
        obtain ⟨DD, hDD⟩ : ∃ z, wr.heap.size = z := ⟨_, rfl⟩
        rw [hDD] at kD0 ⊢
        clear hwo hbo1 hDD kA kC HXP hb qA lA x1 x2 x3 x4 lx
        go_loopw [7, 41] (fun sv jv wr => ∃ (j s : Nat), j ≤ k ∧ jv = .int .i64 (j : Int) ∧ sv = .int .i64 (s : Int) ∧ s ≤ j + 1 ∧ Hid (s = ((x.ds.take j).map nzD).count (nzD d) + 1) ∧ Below wo.heap.size wo wr) (fun _ jv _ => k - (intOf jv).toNat)
        case atStart => exact ⟨0, 1, Nat.zero_le _, rfl, rfl, by omega, Lib.hid (by simp), blwT⟩
        case round =>
          obtain ⟨j, s, hj, rfl, rfl, hsj, HSS, hbo⟩ := hrel
          have hbw := below_on hbo hbow
          have kDj := Blk.by hbo kD0
          by_cases hjt : j < k
          · have j1 : (j : Int) < (k : Int) := by omega
            have j2 : decide (j < k) = true := decide_eq_true hjt
            obtain ⟨e, he⟩ : ∃ e, x.ds[j]? = some e := ⟨_, List.getElem?_eq_getElem (by rw [HE.out.2]; omega)⟩
            have HNC1 := Lib.hid (HNC.out j e he (nzD d))
            have hep := HPB.out e (List.mem_of_getElem? he)
            have HEP := Lib.hid hep
            obtain ⟨sy, y1, y2, y3, y4, y5⟩ := (HAT.out j e he).by hbw
            obtain ⟨py, cy, rfl⟩ := y5.len
            have HYP := Lib.hid y5
            obtain ⟨PY, hPY⟩ : ∃ P, e.pins.length = P := ⟨_, rfl⟩
            rw [hPY] at y2 HYP
            have HPYL := Lib.hid hPY
            have ly := lt_of_cell y1
            dsimp only at ly
            clear he hep y5 hPY
            go_upto_region 13 with fail
            obtain ⟨wE, hwE⟩ : ∃ z : World, z = wr.alloc (.cells #[.int .i64 e.kind, .slice py PY cy, .int .i64 e.wd, .int .i64 e.len] 62) := ⟨_, rfl⟩
            have kE : Blk wE wr.heap.size #[.int .i64 e.kind, .slice py PY cy, .int .i64 e.wd, .int .i64 e.len] 62 := by rw [hwE]; exact Blk.new _ rfl
            have hbE : Below wr.heap.size wr wE := by rw [hwE]; exact (Below.refl _ wr).alloc (Nat.le_refl _) _
            (try rw [← hwE])
            have kDE := Blk.by hbE kDj
            have hbEo := below_on hbE hbo
            have HXE := Lib.hid (HXP2.out.by hbEo)
            have HYE := Lib.hid (HYP.out.by hbE)
            clear hwE hbE kDj HYP y1 y2 y3 y4 ly
            have hS : (fun w' : World => Blk w' DD #[.int .i64 d.kind, .slice px PX cx, .int .i64 d.wd, .int .i64 d.len] 62 ∧ Blk w' wr.heap.size #[.int .i64 e.kind, .slice py PY cy, .int .i64 e.wd, .int .i64 e.len] 62) { wE with drawn := wE.drawn + 1 } := ⟨kDE.drew, kE.drew⟩
            refine wp_region_any (by kernel_rfl) (wpAny_of_E (S := fun w' : World => Blk w' DD #[.int .i64 d.kind, .slice px PX cx, .int .i64 d.wd, .int .i64 d.len] 62 ∧ Blk w' wr.heap.size #[.int .i64 e.kind, .slice py PY cy, .int .i64 e.wd, .int .i64 e.len] 62) (l := 5) _ _ _ _ ?_)
            change wpAnyE _ _ _ _ _ _ _ _ _ wE.drew
            refine wpAnyE_takeL (i := 0) (v := ?_) rfl (by kernel_rfl) (fun _ _ _ h => h) (Or.inl ⟨by rfl, ?_⟩) hS ?_
            rotate_left
            · intro w hSw; (try dsimp only at hSw); have qD := hSw.1.cell; have qE := hSw.2.cell; have lD := hSw.1.lt; have lE := hSw.2.lt; clear hSw; go_simp; (try with_reducible rfl)
            try simp only [Act.put, List.setIfInBounds_toArray, List.set_cons_zero, List.set_cons_succ]
            refine wpAnyE_takeL (i := 2) (v := ?_) rfl (by kernel_rfl) (fun _ _ _ h => h) (Or.inl ⟨by rfl, ?_⟩) hS ?_
            rotate_left
            · intro w hSw; (try dsimp only at hSw); have qD := hSw.1.cell; have qE := hSw.2.cell; have lD := hSw.1.lt; have lE := hSw.2.lt; clear hSw; go_simp; (try with_reducible rfl)
            try simp only [Act.put, List.setIfInBounds_toArray, List.set_cons_zero, List.set_cons_succ]
            refine wpAnyE_oneL (k := 1) (by kernel_rfl) rfl (fun K hK => ?_)
            go_simp
            go_at_call 63
            refine (HNM.out d (.slice px PX cx) wE.drew (HXE.out.by (below_of_drewN wE 1)) (by have := HDP.out.1; omega)).mono ?_
            rintro e_ w3' ⟨v3, rfl, hO3, hb3⟩
            have hb3' : Below wE.heap.size wE w3' := below_on hb3 (below_of_drewN wE 1)
            have HO3 := Lib.hid hO3.sl
            have kD3 := Blk.by hb3' kDE
            have kE3 := Blk.by hb3' kE
            clear hS hO3 hb3
            refine hK.out _ _ (fun _ => ⟨kD3, kE3⟩) ?_
            try simp only [Act.put, List.setIfInBounds_toArray, List.set_cons_zero, List.set_cons_succ]
            refine wpAnyE_oneL (k := 3) (by kernel_rfl) rfl (fun K hK => ?_)
            go_simp
            go_at_call 63
            refine (HNM.out e (.slice py PY cy) w3' (HYE.out.by hb3') (by have := HEP.out.1; omega)).mono ?_
            rintro e_ w4' ⟨v4, rfl, hO4, hb4⟩
            have HO4 := Lib.hid hO4.sl
            have HO3' := Lib.hid (HO3.out.by hb4)
            have hb4' := below_on hb4 hb3'
            have kD4 := Blk.by hb4 kD3
            have kE4 := Blk.by hb4 kE3
            clear hO4 hb4 HO3 hb3' kD3 kE3
            refine hK.out _ _ (fun _ => ⟨kD4, kE4⟩) ?_
            try simp only [Act.put, List.setIfInBounds_toArray, List.set_cons_zero, List.set_cons_succ]
            refine wpAnyE_oneL (k := 4) (by kernel_rfl) rfl (fun K hK => ?_)
            go_simp
            go_at_call 62
            refine (HCP.out (nzD d) (nzD e) _ _ _ HO3'.out HO4.out).mono ?_
            rintro e_ w5 ⟨rfl, hb5⟩
            have hb5' := below_on hb5 hb4'
            have hbo5 := below_on hb5' hbEo
            have kD5 := Blk.by hb5 kD4
            have kE5 := Blk.by hb5 kE4
            obtain ⟨RC, hRC⟩ : ∃ R, dcf (nzD d) (nzD e) = R := ⟨_, rfl⟩
            rw [show devcmp (nzD d).kind (nzD e).kind (nzD d).pins (nzD e).pins (nzD d).wd (nzD e).wd (nzD d).len (nzD e).len = RC from hRC]
            have HRC := Lib.hid hRC
            clear hb5 hb4' HO3' HO4 hRC kD4 kE4
            refine hK.out _ _ (fun _ => ⟨kD5, kE5⟩) ?_
            try simp only [Act.put, List.setIfInBounds_toArray, List.set_cons_zero, List.set_cons_succ]
            refine wpAnyE_oneL (k := 5) (by kernel_rfl) rfl (fun K hK => ?_)
            go_simp
            refine hK.out _ _ (fun h => absurd rfl h) ?_
            refine wpAnyE_done (by kernel_rfl) ?_ _
            clear kD5 kE5 HXE HYE hb5' kDE kE
            by_cases hr0 : RC = 0
            · subst hr0
              have heq : nzD e = nzD d := (dcf_zero.1 HRC.out).symm
              have hst := HNC1.out
              rw [if_pos heq] at hst
              have HST := Lib.hid hst
              clear heq hst
              go_wp2
              exact ⟨⟨j + 1, s + 1, by omega, by go_num, by go_num, by omega, Lib.hid (by rw [HST.out, HSS.out]), hbo5⟩, by simp [intOf]; omega⟩
            · have r1 : (RC == 0) = false := by simpa using hr0
              have hne : ¬ nzD e = nzD d := fun q => hr0 (by rw [← HRC.out, q]; exact dcf_zero.2 rfl)
              have hst := HNC1.out
              rw [if_neg hne, Nat.add_zero] at hst
              have HST := Lib.hid hst
              clear hne hst hr0
              go_wp2
              exact ⟨⟨j + 1, s, by omega, by go_num, by rfl, by omega, Lib.hid (by rw [HST.out, HSS.out]), hbo5⟩, by simp [intOf]; omega⟩
          · obtain rfl : k = j := by omega
            have j1 : ¬ (k : Int) < (k : Int) := by omega
            obtain ⟨c', hc'⟩ : ∃ c' : Nat, wayTo x.ds (k + 1) = c' := ⟨_, rfl⟩
            have hcb : c' ≤ 10000000000 := by rw [← hc']; exact (HWB.out (k + 1)).2
            have hcs : (c : Int) * (s : Int) = (c' : Int) := by
              rw [← hc', HWS1.out, HCC.out, HSS.out]
              rw [Nat.mul_comm ((List.count (nzD d) (List.map nzD (List.take k x.ds))) + 1) (wayTo x.ds k)]
              push_cast
              rfl
            have HC' := Lib.hid hc'
            have hw1 : IntKind.i64.wrap ((c : Int) * (s : Int)) = (c' : Int) := by rw [hcs]; simp [IntKind.wrap, IntKind.bits, IntKind.signed]; omega
            have kA9 := Blk.by hbo kA2
            have kC9 := Blk.by hbo kC2
            clear hc' hjt
            go_wp2
            exact ⟨⟨k + 1, c', by omega, by go_num, by first | rfl | (simp [hcs]) | go_num, Lib.hid HC'.out.symm, kA9, kC9, hbw⟩, by simp [intOf]; omega⟩
      · obtain rfl : n = k := by omega
        have i1 : ¬ (n : Int) < (n : Int) := by omega
        have hcb : c ≤ 10000000000 := by rw [HCC.out]; exact (HWB.out n).2
        obtain ⟨q, hq⟩ : ∃ q : Nat, T * c = q := ⟨_, rfl⟩
        have hqb : q ≤ 823543 * 10000000000 := by rw [← hq]; exact Nat.mul_le_mul hTb hcb
        have hqs : (T : Int) * (c : Int) = (q : Int) := by rw [← hq]; push_cast; rfl
        have hw1 : IntKind.i64.wrap ((T : Int) * (c : Int)) = (q : Int) := by rw [hqs]; simp [IntKind.wrap, IntKind.bits, IntKind.signed]; omega
        have HQ := Lib.hid hq
        have qC := kC.cell
        have lC := kC.lt
        clear hq hlt
        go_wp2
        go_ret
        exact ⟨ret_i64 (by first | (rw [HRR.out, ← HCC.out, HQ.out]; done) | (simp [hqs, HRR.out, ← HCC.out, HQ.out])), hb⟩
  · have hRR : R = -1 := by
      rw [← HR.out]; unfold autR
      rw [if_neg (by rw [HE.out.1, HE.out.2]; exact hall)]
    subst hRR
    cases hx : nlB x with
    | false =>
      clear hall
      go_wp2
      go_ret
      exact ⟨rfl, hb2w⟩
    | true =>
      by_cases h7 : nx ≤ 7
      · have g1 : ¬ (7 : Int) < nx := by omega
        have g3 : decide ((7 : Int) < nx) = false := decide_eq_false g1
        have h10 : ¬ n ≤ 10 := fun q => hall ⟨hx, h7, q⟩
        have g2 : (10 : Int) < (n : Int) := by omega
        have g4 : decide ((10 : Int) < (n : Int)) = true := decide_eq_true g2
        clear hall hx
        go_wp2
        go_ret
        exact ⟨rfl, hb2w⟩
      · have g1 : (7 : Int) < nx := by omega
        have g3 : decide ((7 : Int) < nx) = true := decide_eq_true g1
        clear hall hx
        go_wp2
        go_ret
        exact ⟨rfl, hb2w⟩
end Go.Proofs.YtifbffianbgeaaaGreat
namespace Go.Proofs.YtifbffianbgeaaaGreat.fnExactAutomorphismCount
open Go.RowKit Go.Proofs.YtifbffianbgeaaaGreat
set_option linter.unusedVariables false
set_option maxRecDepth 100000 in
set_option maxHeartbeats 8000000 in
theorem walk (v0 : Value) (w : World) (x : Nl) (w0 : IsNlV w v0 x) :
    Calls Tryz.prog 5 #[v0] w fun e w' => e = .returned (.bool true) ∧ Below w.heap.size w w' := by
  obtain ⟨hV0, h0f, h0d, h0p⟩ := w0
  have HSZ0 := fun w h => szNl_any v0 x 1048576 w h h0p (by omega) (by omega)
  by_cases hbig : (1048576 : Int) < nlSize x.ds x.ps
  · simp only [if_pos hbig] at HSZ0
    have HZ0 := Lib.hid HSZ0
    clear HSZ0 hbig
    have HV0 := Lib.hid hV0
    obtain ⟨a0, c0, a0d, c0d, rfl⟩ := hV0.sized
    clear hV0
    go_enter Tryz.func5, Tryz.ntmps5
    go_wp2_with fail
    refine (HZ0.out _ (HV0.out.by blwT)).mono ?_
    rintro e s0 ⟨rfl, hb⟩
    go_wp2
    go_ret
    exact ⟨rfl, blwT⟩
  simp only [if_neg hbig] at HSZ0
  obtain ⟨n0a, n0b, n0c⟩ := nlSize_bounds hbig
  have hsn0 : 0 ≤ nlSize x.ds x.ps := by exact nlSize_nonneg _
  obtain ⟨l0, hl0⟩ : ∃ l : Int, (1048576 : Int) - nlSize x.ds x.ps = l := ⟨_, rfl⟩
  have hl0a : 0 ≤ l0 := by omega
  have hl0b : l0 ≤ 1048576 := by omega
  rw [hl0] at HSZ0
  have HZ0 := Lib.hid HSZ0
  clear HSZ0 hbig hl0 hsn0
  have HTO0 := Lib.hid (fun v w h => toNetlist_nl v x w h n0a n0b n0c)
  have HEQ0 := Lib.hid (fun v1 v2 w h1 h2 => eqNetlist_refl v1 v2 x w h1 h2)
  have HSP := Lib.hid (fun u0 w h0 => specAut_any x u0 w h0 h0p h0f)
  have HIM := Lib.hid (fun u0 w h0 => implAut_any x u0 w h0 h0p h0f)
  generalize autR x = r0 at *
  have HV0 := Lib.hid hV0
  obtain ⟨a0, c0, a0d, c0d, rfl⟩ := hV0.sized
  clear hV0 n0a n0b n0c h0f h0d h0p
  go_enter Tryz.func5, Tryz.ntmps5
  go_wp2_with fail
  refine (HZ0.out _ (HV0.out.by blwT)).mono ?_
  rintro e s0 ⟨rfl, hb⟩
  have kA0 : Blk s0 (w.heap.size) #[.int .i64 x.nets, .slice a0 x.ds.length c0, .slice a0d x.ps.length c0d] 25 := blkT
  have hW : Below w.heap.size w s0 := blwT
  clear hb 
  have cA0 := kA0.cell
  go_wp2_with fail
  refine (HTO0.out _ _ (HV0.out.by hW)).mono ?_
  rintro e t10 ⟨v, rfl, hN, hb⟩
  replace kA0 := Blk.by hb kA0
  replace hW := below_on hb hW
  clear hb cA0
  have cA0 := kA0.cell
  have HN10 := Lib.hid hN
  obtain ⟨a10, c10, a10d, c10d, rfl⟩ := hN.sized
  clear hN
  go_wp2_with fail
  refine (HSP.out _ _ HN10.out).mono ?_
  rintro e t20 ⟨rfl, hb⟩
  replace kA0 := Blk.by hb kA0
  replace hW := below_on hb hW
  clear hb cA0
  have cA0 := kA0.cell
  clear HN10
  go_wp2_with fail
  refine (HTO0.out _ _ (HV0.out.by hW)).mono ?_
  rintro e t30 ⟨v, rfl, hN, hb⟩
  replace kA0 := Blk.by hb kA0
  replace hW := below_on hb hW
  clear hb cA0
  have cA0 := kA0.cell
  have HN30 := Lib.hid hN
  obtain ⟨a30, c30, a30d, c30d, rfl⟩ := hN.sized
  clear hN
  have kX0 : Blk (t30.alloc (.cells #[.int .i64 x.nets, .slice a30 x.ds.length c30, .slice a30d x.ps.length c30d] 35)) t30.heap.size #[.int .i64 x.nets, .slice a30 x.ds.length c30, .slice a30d x.ps.length c30d] 35 := Blk.new _ rfl
  replace kA0 := kA0.past (.cells #[.int .i64 x.nets, .slice a30 x.ds.length c30, .slice a30d x.ps.length c30d] 35)
  replace hW := below_al hW (.cells #[.int .i64 x.nets, .slice a30 x.ds.length c30, .slice a30d x.ps.length c30d] 35)
  replace HN30 := Lib.hid (HN30.out.by ((Below.refl _ t30).alloc (Nat.le_refl _) (.cells #[.int .i64 x.nets, .slice a30 x.ds.length c30, .slice a30d x.ps.length c30d] 35)))
  clear cA0
  have cA0 := kA0.cell
  have lA0 := kA0.lt
  have cX0 := kX0.cell
  have lX0 := kX0.lt
  go_wp2_with fail
  refine (HIM.out _ _ HN30.out).mono ?_
  rintro e t50 ⟨rfl, hb⟩
  replace kA0 := Blk.by hb kA0
  replace kX0 := Blk.by hb kX0
  replace hW := below_on hb hW
  replace HN30 := Lib.hid (HN30.out.by hb)
  clear hb cA0 cX0
  have cA0 := kA0.cell
  have cX0 := kX0.cell
  clear lA0 lX0
  generalize t30.heap.size = p0 at *
  go_wp2_with fail
  go_region_held3 (fun w' => (Blk w' (w.heap.size) #[.int .i64 x.nets, .slice a0 x.ds.length c0, .slice a0d x.ps.length c0d] 25 ∧ ∀ o, w'.cell? ⟨w.heap.size, o, none⟩ = (#[.int .i64 x.nets, .slice a0 x.ds.length c0, .slice a0d x.ps.length c0d] : Array Value)[o]?) ∧ (Blk w' (p0) #[.int .i64 x.nets, .slice a30 x.ds.length c30, .slice a30d x.ps.length c30d] 35 ∧ ∀ o, w'.cell? ⟨p0, o, none⟩ = (#[.int .i64 x.nets, .slice a30 x.ds.length c30, .slice a30d x.ps.length c30d] : Array Value)[o]?) ∧ Below w.heap.size w w') (((try (obtain ⟨⟨hS0, _⟩, ⟨hS1, _⟩, hSB⟩ := hHeld)); refine ⟨Blk.both ?_, Blk.both ?_, ?_⟩ <;> first | ((repeat (first | (with_reducible assumption) | (with_reducible refine Blk.drewN ?_ _) | (with_reducible refine Blk.drew ?_) | ((with_reducible refine Blk.new _ ?_); focus (first | omega | (simp; done) | (simp; omega))) | (with_reducible refine Blk.past ?_ _) | ((with_reducible refine Blk.apart ?_ _ _ _ ?_); rotate_left; focus (first | omega | (simp; done) | (simp; omega))) | (with_reducible refine Blk.by (by assumption) ?_))); done) | ((repeat (first | (with_reducible exact Below.refl _ _) | (with_reducible refine below_drewN ?_ _) | (with_reducible refine Below.drew ?_) | (with_reducible refine below_al ?_ _) | (with_reducible refine below_on (by assumption) ?_) | ((with_reducible refine Below.setCell ?_ ?_ _); rotate_left; focus (first | omega | (simp; done) | (simp; omega))) | (with_reducible assumption))); done)))
    (first | (go_at_call 12; refine (HTO0.out _ _ ((HV0.out.by hW).by (below_of_drewN t50 1))).mono ?_; rintro e t60 ⟨v60_, rfl, hN, hb60⟩; have HN60 := Lib.hid hN; obtain ⟨a60, c60, a60d, c60d, rfl⟩ := hN.sized; clear hN) | (go_at_call 15; refine (HEQ0.out _ _ _ ((HN30.out.by (below_of_drewN t50 1)).by hb60) HN60.out).mono ?_; rintro e t61 ⟨rfl, hb61⟩))
  go_wp2
  go_ret
  exact ⟨rfl, blwT⟩
end Go.Proofs.YtifbffianbgeaaaGreat.fnExactAutomorphismCount
namespace Go.Proofs.YtifbffianbgeaaaGreat.facts
open Go.RowKit Go.Proofs.YtifbffianbgeaaaGreat
theorem laid : (laidOutB Tryz.pinned.checked.prog) = true := by kernel_rfl
theorem rowed : (mapsRowed Tryz.pinned.checked.prog) = true := by kernel_rfl
theorem stops : (Tryz.pinned.checked.prog.stops == []) = true := by kernel_rfl
theorem knobs : (Tryz.pinned.checked.prog.stopKnobs == []) = true := by kernel_rfl
theorem keys : (Rows.fnExactCompareNetlistsRow.plainKeys == Tryz.pinned.checked.prog.plainKeys) = true := by kernel_rfl
theorem heard : (Tryz.pinned.checked.prog.stopsHeard) = true := by kernel_rfl
theorem enter : (Tryz.pinned.checked.prog.mayEnter) = true := by kernel_rfl
theorem lifts : (Rows.fnExactCompareNetlistsRow.lifted == Tryz.pinned.checked.prog.liftsFinal) = true := by kernel_rfl
theorem make : (Tryz.pinned.checked.prog.make == some Rows.fnExactCompareNetlistsRow.make) = true := by kernel_rfl
theorem own : ownKnob Tryz.prog.godebug = none := by kernel_rfl
theorem laidOut : laidOutB Tryz.prog = true := laid
end Go.Proofs.YtifbffianbgeaaaGreat.facts
