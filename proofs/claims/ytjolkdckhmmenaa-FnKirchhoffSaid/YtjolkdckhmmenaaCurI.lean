/- ResistorCurrents: the program's. -/
import Derived.Test.YtjolkdckhmmenaaCurS
namespace Go.Proofs.Ytjolkdckhmmenaa
open Go.RowKit
set_option linter.unusedVariables false
set_option linter.unusedSimpArgs false

set_option maxRecDepth 100000 in
set_option maxHeartbeats 8000000 in
theorem implCur_any (x : Nw) (a b : Int) (v : Value) (w : World) (h : NwV w v x) (hok : ∀ r ∈ x.rs, r.ok) (hf : Fits x.nodes) :
    Calls Try.prog 13 #[v, .int .i64 a, .int .i64 b] w fun e w' => ∃ v', e = .returned (.tuple #[v', .int .i64 (nkC x a b)]) ∧ OwnRat w' w.heap.size w'.heap.size v' (curS x a b) ∧ Below w.heap.size w w' := by
  have HC := Lib.hid (fun v w h => networkCode_any x a b v w h hok hf)
  have HNV := Lib.hid h
  obtain ⟨a0, c0, rfl⟩ := h.sized
  clear h hok
  by_cases hc : nkC x a b = 0
  · obtain ⟨hv, hiA, hiB, hab⟩ := nk_yes hc
    have HPS := Lib.hid (show curS x a b = x.rs.map fun r => rtOf (curQ x a b r * r.den) (nkP x a).tot from by unfold curS; rw [if_pos hc])
    have hT0 : 0 < (nkP x a).tot := by rw [nk_P hc]; exact (nkX hc).T_pos
    have hT1 : (nkP x a).tot ≤ 2560000000000000000 := by rw [nk_P hc]; exact (nkX hc).T_le
    have hS1 : ∀ u, 0 ≤ nkT x a b u ∧ nkT x a b u ≤ 2560000000000000000 := fun u => by rw [nk_T hc]; exact (nkX hc).S_bd u
    have hCE : ∀ r ∈ x.rs, nkT x a b r.a - nkT x a b r.b = r.num * curQ x a b r ∧ -2560000000000000000 ≤ curQ x a b r * r.den ∧ curQ x a b r * r.den ≤ 2560000000000000000 := fun r hr => (nkX hc).cur_eq hr
    obtain ⟨⟨n0, n1⟩, r8, each, _⟩ := nw_facts hv
    obtain ⟨nodes, rs⟩ := x
    dsimp only at *
    obtain ⟨n, rfl⟩ : ∃ n : Nat, nodes = n := ⟨nodes.toNat, by omega⟩
    obtain ⟨p, rfl⟩ : ∃ p : Nat, a = p := ⟨a.toNat, by omega⟩
    obtain ⟨q, rfl⟩ : ∃ q : Nat, b = q := ⟨b.toNat, by omega⟩
    rw [hc] at HC ⊢
    have HVV := Lib.hid hv
    have HCC := Lib.hid hc
    have HSUM := Lib.hid (fun v w (h : NwV w v ⟨n, rs⟩) => show Calls Try.prog 27 #[v, .int .i64 (p : Int), .int .i64 (q : Int)] w fun e w' => ∃ g, e = .returned (.tuple #[.slice (some ⟨g, 0, none⟩) n n, .int .i64 (nkP ⟨n, rs⟩ (p : Int)).tot]) ∧ FBlk w' g n (fun u => nkT ⟨n, rs⟩ (p : Int) (q : Int) u) ∧ w.heap.size ≤ g ∧ Below w.heap.size w w' from solve_any n rs p q v w h (nw_ok (x := ⟨n, rs⟩) HVV.out rfl) (part_ok (x := ⟨n, rs⟩) HVV.out rfl p) (by omega) (by omega))
    have HT0 := Lib.hid hT0
    have HT1 := Lib.hid hT1
    have HS1 := Lib.hid hS1
    have HCE := Lib.hid hCE
    have HEA := Lib.hid each
    have HOK := Lib.hid (nw_ok (x := ⟨n, rs⟩) hv rfl)
    clear hv hc hab hT0 hT1 hS1 hCE each
    go_enter Try.func13, Try.ntmps13
    go_wp2_with fail
    refine (HC.out _ _ (HNV.out.by (by ((repeat (first | (with_reducible exact Below.refl _ _) | (with_reducible refine below_drewN ?_ _) | (with_reducible refine Below.drew ?_) | (with_reducible refine below_al ?_ _) | (with_reducible refine below_on (by assumption) ?_) | ((with_reducible refine Below.setCell ?_ ?_ _); rotate_left; focus (first | omega | (simp; done) | (simp; omega))) | (with_reducible assumption))); done)))).mono ?_
    rintro e w1 ⟨rfl, hb1⟩
    have kA : Blk w1 w.heap.size #[.int .i64 (n : Int), .slice a0 rs.length c0] 26 := (by ((repeat (first | (with_reducible assumption) | (with_reducible refine Blk.drewN ?_ _) | (with_reducible refine Blk.drew ?_) | ((with_reducible refine Blk.new _ ?_); focus (first | omega | (simp; done) | (simp; omega))) | (with_reducible refine Blk.past ?_ _) | ((with_reducible refine Blk.apart ?_ _ _ _ ?_); rotate_left; focus (first | omega | (simp; done) | (simp; omega))) | (with_reducible refine Blk.by (by assumption) ?_))); done))
    have hW : Below w.heap.size w w1 := (by ((repeat (first | (with_reducible exact Below.refl _ _) | (with_reducible refine below_drewN ?_ _) | (with_reducible refine Below.drew ?_) | (with_reducible refine below_al ?_ _) | (with_reducible refine below_on (by assumption) ?_) | ((with_reducible refine Below.setCell ?_ ?_ _); rotate_left; focus (first | omega | (simp; done) | (simp; omega))) | (with_reducible assumption))); done))
    have qA := kA.cell
    have lA := kA.lt
    clear hb1
    go_wp2_with fail
    refine (HSUM.out _ _ (HNV.out.by hW)).mono ?_
    rintro e w3 ⟨g, rfl, hF3, hge3, hb3⟩
    have hW3 := below_on hb3 hW
    have hsz2 := hW.size
    have HB3W := Lib.hid (show Below w1.heap.size w1 w3 from hb3)
    clear hb3
    obtain ⟨f, hff⟩ : ∃ f : Nat → Int, (fun (u : Nat) => nkT ⟨n, rs⟩ (p : Int) (q : Int) u) = f := ⟨_, rfl⟩
    have HFF := Lib.hid (fun (u : Nat) => congrFun hff u)
    rw [hff] at hF3
    obtain ⟨Tt, hTt⟩ : ∃ T, (nkP ⟨n, rs⟩ (p : Int)).tot = T := ⟨_, rfl⟩
    rw [hTt] at HPS HT0 HT1 ⊢
    obtain ⟨G, hG⟩ : ∃ G : Res → Int, (fun r => curQ ⟨n, rs⟩ (p : Int) (q : Int) r) = G := ⟨_, rfl⟩
    have HGG := Lib.hid (fun r => congrFun hG r)
    have HPF := Lib.hid (show curS ⟨n, rs⟩ p q = rs.map fun r => rtOf (G r * r.den) Tt from by
      rw [HPS.out]
      exact List.map_congr_left (fun r _ => by rw [← HGG.out r]))
    have hT0 := HT0.out
    have hT1 := HT1.out
    have HRD := Lib.hid (fun z w (h1 : -2560000000000000000 ≤ z) (h2 : z ≤ 2560000000000000000) => lowest_any z Tt w (by omega) (by omega) (by omega) (by omega) (by omega))
    have hgl := hF3.lt
    have HF3 := Lib.hid hF3
    have HR := Lib.hid (show ResSl w3 (.slice a0 rs.length c0) rs from by obtain ⟨sv, e, hR⟩ := HNV.out; cases e; exact hR.by hW3)
    replace kA := Blk.by (HB3W.out) kA
    clear hff hF3 HPS HC HNV qA lA hTt hG
    obtain ⟨M, hM⟩ : ∃ M, w3.heap.size = M := ⟨_, rfl⟩
    have hM1 := Nat.le_of_eq hM
    have hM2 := Nat.le_of_eq hM.symm
    have HMM := Lib.hid hM
    clear hM
    have qA' := kA.cell
    have lA' := kA.lt
    go_wp2
    rw [HMM.out]
    go_loopw [11, 35] (fun u i wr => ∃ (k hi : Nat), k ≤ rs.length ∧ i = .int .i64 (k : Int) ∧ Hid (BldRat wr M hi u ((rs.take k).map fun r => rtOf (G r * r.den) Tt)) ∧ M < hi ∧ Below w3.heap.size w3 wr) (fun _ i _ => rs.length - (intOf i).toNat)
    case atStart =>
      refine ⟨0, M + 1, Nat.zero_le _, rfl, Lib.hid ?_, by omega, (by ((repeat (first | (with_reducible exact Below.refl _ _) | (with_reducible refine below_drewN ?_ _) | (with_reducible refine Below.drew ?_) | (with_reducible refine below_al ?_ _) | (with_reducible refine below_on (by assumption) ?_) | ((with_reducible refine Below.setCell ?_ ?_ _); rotate_left; focus (first | omega | (simp; done) | (simp; omega))) | (with_reducible assumption))); done))⟩
      exact BldRat.none (cs := #[]) (Blk.new _ HMM.out.symm) rfl (Nat.le_refl _) (by omega) (by simp; omega)
    case round =>
      clear qA' lA'
      obtain ⟨k, hi, hk, rfl, HB, hhi, hb⟩ := hrel
      obtain ⟨au, cu, rfl⟩ := HB.out.sized
      have hlen : ((rs.take k).map fun r => rtOf (G r * r.den) Tt).length = k := by rw [List.length_map, List.length_take]; omega
      have HLEN := Lib.hid hlen
      rw [hlen] at HB
      (try rw [hlen])
      clear hlen
      have hIs := HB.out.1
      have kAr := Blk.by hb kA
      have qA := kAr.cell
      have lA := kAr.lt
      by_cases hlt : k < rs.length
      · obtain ⟨x, hx⟩ : ∃ x, rs[k]? = some x := ⟨_, List.getElem?_eq_getElem hlt⟩
        have hxm := List.mem_of_getElem? hx
        obtain ⟨s, t, es, et, hs, ht, _⟩ := HOK.out.at hx
        have HX := Lib.hid (show ((rs.take (k + 1)).map fun r => rtOf (G r * r.den) Tt) = ((rs.take k).map fun r => rtOf (G r * r.den) Tt) ++ [rtOf (G x * x.den) Tt] from by rw [List.take_add_one, hx]; simp)
        obtain ⟨c1, c2, c3⟩ := HCE.out x hxm
        obtain ⟨_, _, _, _, x5, x6⟩ := HEA.out x hxm
        rw [HGG.out x] at c1 c2 c3
        rcases HR.out with ⟨_, _, _, h2⟩ | ⟨bb, off, cap, he, h2, h3, h4⟩
        · rw [h2] at hlt; simp at hlt
        obtain ⟨rfl, rfl⟩ : a0 = some ⟨bb, off, none⟩ ∧ c0 = cap := by simpa using he
        obtain ⟨d0, d1, d2, d3⟩ := (h4 k x hx).by hb
        have hF := HF3.out.by hb
        have cs := hF.at hs
        have ct := hF.at ht
        have lF := hF.lt
        have b1 := HS1.out s
        have b2 := HS1.out t
        rw [HFF.out s] at b1
        rw [HFF.out t] at b2
        rw [es, et, HFF.out s, HFF.out t] at c1
        rw [es] at d0
        rw [et] at d1
        obtain ⟨Q, hQ⟩ : ∃ Q, G x = Q := ⟨_, rfl⟩
        rw [hQ] at c1 c2 c3 HX
        obtain ⟨X, hX⟩ : ∃ X, x.num = X := ⟨_, rfl⟩
        obtain ⟨Y, hY⟩ : ∃ Y, x.den = Y := ⟨_, rfl⟩
        rw [hX] at c1 x5 d2
        rw [hY] at c2 c3 x6 d3 HX
        obtain ⟨SA, hSA⟩ : ∃ z, f s = z := ⟨_, rfl⟩
        obtain ⟨SB, hSB⟩ : ∃ z, f t = z := ⟨_, rfl⟩
        rw [hSA] at cs b1 c1
        rw [hSB] at ct b2 c1
        have hq : (SA - SB).tdiv X = Q := by rw [c1, Int.mul_tdiv_cancel_left _ (by omega)]
        have hQb : -2560000000000000000 ≤ Q ∧ Q ≤ 2560000000000000000 := by
          have := tdiv_bd (SA - SB) X (by omega) 2560000000000000000 (by omega) (by omega)
          rw [hq] at this; exact this
        have hws : IntKind.i64.wrap (SA - SB) = SA - SB := by simp [IntKind.wrap, IntKind.bits, IntKind.signed]; omega
        have hwQ : IntKind.i64.wrap Q = Q := by simp [IntKind.wrap, IntKind.bits, IntKind.signed]; omega
        have hwp : IntKind.i64.wrap (Q * Y) = Q * Y := by simp [IntKind.wrap, IntKind.bits, IntKind.signed]; omega
        have hxv := (HEA.out x hxm).2.2.2.1
        rw [hX, hY] at hxv
        have hcr := cur_red (q := Q) (num := X) (den := Y) (T := Tt) (by omega) (by omega) hT0 hxv
        rw [← c1] at hcr
        obtain ⟨DN, hDN⟩ : ∃ z, redN (SA - SB) Tt = z := ⟨_, rfl⟩
        obtain ⟨DD, hDD⟩ : ∃ z, redD (SA - SB) Tt = z := ⟨_, rfl⟩
        obtain ⟨ON, hON⟩ : ∃ z, redN DN X = z := ⟨_, rfl⟩
        obtain ⟨OD, hOD⟩ : ∃ z, redD DN X = z := ⟨_, rfl⟩
        obtain ⟨TN, hTN⟩ : ∃ z, redN Y DD = z := ⟨_, rfl⟩
        obtain ⟨TD, hTD⟩ : ∃ z, redD Y DD = z := ⟨_, rfl⟩
        simp only [hDN, hDD, hON, hOD, hTN, hTD] at hcr
        obtain ⟨⟨r1, r2⟩, r3, r4, r5, r6, r7, r8'⟩ := hcr
        obtain ⟨RN, hRN⟩ : ∃ z, redN (ON * TN) (OD * TD) = z := ⟨_, rfl⟩
        obtain ⟨RD, hRD⟩ : ∃ z, redD (ON * TN) (OD * TD) = z := ⟨_, rfl⟩
        have HR1 := Lib.hid (fun w => show Calls Try.prog 28 #[.int .i64 (SA - SB), .int .i64 Tt] w fun e w' => e = .returned (.agg #[.int .i64 DN, .int .i64 DD]) ∧ Below w.heap.size w w' from by have q := lowest_any (SA - SB) Tt w (by omega) (by omega) (by omega) (by omega) (by omega); rw [hDN, hDD] at q; exact q)
        have HR2 := Lib.hid (fun w => show Calls Try.prog 28 #[.int .i64 DN, .int .i64 X] w fun e w' => e = .returned (.agg #[.int .i64 ON, .int .i64 OD]) ∧ Below w.heap.size w w' from by have q := lowest_any DN X w (by omega) (by omega) (by omega) (by omega) (by omega); rw [hON, hOD] at q; exact q)
        have HR3 := Lib.hid (fun w => show Calls Try.prog 28 #[.int .i64 Y, .int .i64 DD] w fun e w' => e = .returned (.agg #[.int .i64 TN, .int .i64 TD]) ∧ Below w.heap.size w w' from by have q := lowest_any Y DD w (by omega) (by omega) (by omega) (by omega) (by omega); rw [hTN, hTD] at q; exact q)
        have HRx := Lib.hid (fun w => show Calls Try.prog 28 #[.int .i64 (ON * TN), .int .i64 (OD * TD)] w fun e w' => e = .returned (.agg #[.int .i64 RN, .int .i64 RD]) ∧ Below w.heap.size w w' from by have q := lowest_any (ON * TN) (OD * TD) w (by omega) (by omega) (by omega) (by omega) (by omega); rw [hRN, hRD] at q; exact q)
        have hwON : IntKind.i64.wrap (ON * TN) = ON * TN := by simp [IntKind.wrap, IntKind.bits, IntKind.signed]; omega
        have hwOD : IntKind.i64.wrap (OD * TD) = OD * TD := by simp [IntKind.wrap, IntKind.bits, IntKind.signed]; omega
        have hbON : -2560000000000000000 ≤ ON * TN ∧ ON * TN ≤ 2560000000000000000 := by omega
        rw [hRN] at r1
        rw [hRD] at r2
        have HXY := Lib.hid (show rtOf (Q * Y) Tt = ⟨RN, RD⟩ from by unfold rtOf; rw [← r1, ← r2])
        have hX0 : (X == 0) = false := by simp; omega
        have hX1 : X ≠ 0 := by omega
        obtain ⟨ZS, hZS⟩ : ∃ ZS, ((rs.take k).map fun r => rtOf (G r * r.den) Tt) = ZS := ⟨_, rfl⟩
        rw [hZS] at HB HLEN HX
        have j1 : (0 : Int) ≤ (k : Int) := by omega
        have j2 : (k : Int) < (rs.length : Int) := by omega
        have j3 : (0 : Int) ≤ (s : Int) := by omega
        have j4 : (s : Int) < (n : Int) := by omega
        have j5 : (0 : Int) ≤ (t : Int) := by omega
        have j6 : (t : Int) < (n : Int) := by omega
        clear hF h4 he hx hxm es et hQ hX hY hSA hSB hRN hRD hZS c1 hDN hDD hON hOD hTN hTD r1 r2 hxv
        clear r3 r4 r5 r6 r7
        have OBK : Blk (wr.alloc (.cells #[.int .i64 (s : Int), .int .i64 (t : Int), .int .i64 X, .int .i64 Y] 39)) wr.heap.size #[.int .i64 (s : Int), .int .i64 (t : Int), .int .i64 X, .int .i64 Y] 39 := Blk.new _ rfl
        have hbz : Below wr.heap.size wr (wr.alloc (.cells #[.int .i64 (s : Int), .int .i64 (t : Int), .int .i64 X, .int .i64 Y] 39)) := (Below.refl _ wr).alloc (Nat.le_refl _) _
        have HBz := Lib.hid (HB.out.by hbz)
        have hbw := below_on hbz hb
        have cs' := cell_by' hbz cs
        have ct' := cell_by' hbz ct
        clear hbz HB
        go_upto_region 9 with fail
        obtain ⟨N, hN⟩ : ∃ N, wr.heap.size = N := ⟨_, rfl⟩
        have hNI : hi ≤ N := by omega
        have hN1 := Nat.le_of_eq hN
        have hN2 := Nat.le_of_eq hN.symm
        (try rw [hN])
        rw [hN] at OBK
        have hzs : (wr.alloc (.cells #[.int .i64 (s : Int), .int .i64 (t : Int), .int .i64 X, .int .i64 Y] 39)).heap.size = N + 1 := by simp; omega
        have hzs1 := Nat.le_of_eq hzs
        have hzs2 := Nat.le_of_eq hzs.symm
        clear hN hzs d0 d1 d2 d3 cs ct qA lA lF kAr hb hIs
        generalize wr.alloc (.cells #[.int .i64 (s : Int), .int .i64 (t : Int), .int .i64 X, .int .i64 Y] 39) = wz at *
        have e0 : wz.cell? ⟨N, 0, none⟩ = some (.int .i64 (s : Int)) := OBK.cell 0
        have e1 : wz.cell? ⟨N, 1, none⟩ = some (.int .i64 (t : Int)) := OBK.cell 1
        have e2 : wz.cell? ⟨N, 2, none⟩ = some (.int .i64 X) := OBK.cell 2
        have e3 : wz.cell? ⟨N, 3, none⟩ = some (.int .i64 Y) := OBK.cell 3
        have lN := OBK.lt
        have hW4 := below_on hbw hW3
        have lg : g < wz.heap.size := by omega
        have qN := OBK.cell
        go_cut [14] (fun s14 wx => ∃ ND : Nat, s14 = .pointer (some ⟨ND, 0, none⟩) ∧ Blk wx ND #[.int .i64 DN, .int .i64 DD] 30 ∧ Below wz.heap.size wz wx ∧ N < ND)
        case first =>
          have HSB : ∀ w' : World, Below wz.heap.size wz w' → (fun w' : World => (Blk w' N #[.int .i64 (s : Int), .int .i64 (t : Int), .int .i64 X, .int .i64 Y] 39 ∧ ∀ o, w'.cell? ⟨N, o, none⟩ = (#[.int .i64 (s : Int), .int .i64 (t : Int), .int .i64 X, .int .i64 Y] : Array Value)[o]?) ∧ w'.cell? ⟨g, s, none⟩ = some (.int .i64 SA) ∧ w'.cell? ⟨g, t, none⟩ = some (.int .i64 SB) ∧ Below wz.heap.size wz w') w' := fun w' hb => ⟨(Blk.by hb OBK).both, cell_by' hb cs', cell_by' hb ct', hb⟩
          go_region_held3 (fun w' : World => (Blk w' N #[.int .i64 (s : Int), .int .i64 (t : Int), .int .i64 X, .int .i64 Y] 39 ∧ ∀ o, w'.cell? ⟨N, o, none⟩ = (#[.int .i64 (s : Int), .int .i64 (t : Int), .int .i64 X, .int .i64 Y] : Array Value)[o]?) ∧ w'.cell? ⟨g, s, none⟩ = some (.int .i64 SA) ∧ w'.cell? ⟨g, t, none⟩ = some (.int .i64 SB) ∧ Below wz.heap.size wz w') (((try (obtain ⟨_, _, _, hSB⟩ := hHeld)); refine HSB _ ?_; ((repeat (first | (with_reducible exact Below.refl _ _) | (with_reducible refine below_drewN ?_ _) | (with_reducible refine Below.drew ?_) | (with_reducible refine below_al ?_ _) | (with_reducible refine below_on (by assumption) ?_) | ((with_reducible refine Below.setCell ?_ ?_ _); rotate_left; focus (first | omega | (simp; done) | (simp; omega))) | (with_reducible assumption))); done)))
            (first | (go_at_call 28; (with_reducible refine (HR1.out _).mono ?_); rintro e w4 ⟨rfl, hb4⟩; (try (refine with_fact (p := Blk w4 wz.heap.size #[.int .i64 0, .int .i64 0] 30) (Blk.by hb4 ?_) ?_; (focus ((repeat (first | (with_reducible assumption) | (with_reducible refine Blk.drewN ?_ _) | (with_reducible refine Blk.drew ?_) | ((with_reducible refine Blk.new _ ?_); focus (first | omega | (simp; done) | (simp; omega))) | (with_reducible refine Blk.past ?_ _) | ((with_reducible refine Blk.apart ?_ _ _ _ ?_); rotate_left; focus (first | omega | (simp; done) | (simp; omega))) | (with_reducible refine Blk.by (by assumption) ?_))); done)); intro kz; have cz := kz.cell; have fz := kz.free; have lz := kz.lt))))
          all_goals (go_wp2_with fail; go_meet)
          all_goals
            refine ⟨_, rfl, ?_, ?_, ?_⟩
            · first | (with_reducible exact Blk.new _ rfl) | ((with_reducible refine Blk.set2 (a := .int .i64 0) (b := .int .i64 0) ?_); first | (with_reducible assumption) | (with_reducible exact Blk.new _ rfl) | ((repeat (first | (with_reducible assumption) | (with_reducible refine Blk.drewN ?_ _) | (with_reducible refine Blk.drew ?_) | ((with_reducible refine Blk.new _ ?_); focus (first | omega | (simp; done) | (simp; omega))) | (with_reducible refine Blk.past ?_ _) | ((with_reducible refine Blk.apart ?_ _ _ _ ?_); rotate_left; focus (first | omega | (simp; done) | (simp; omega))) | (with_reducible refine Blk.by (by assumption) ?_))); done))
            · ((repeat (first | (with_reducible exact Below.refl _ _) | (with_reducible refine below_drewN ?_ _) | (with_reducible refine Below.drew ?_) | (with_reducible refine below_al ?_ _) | (with_reducible refine below_on (by assumption) ?_) | ((with_reducible refine Below.setCell ?_ ?_ _); rotate_left; focus (first | omega | (simp; done) | (simp; omega))) | (with_reducible assumption))); done)
            · first | omega | (have hs4 := hb4.size; (try simp only [World.size_alloc, size_drewN, World.size_drew] at hs4); omega)
        case rest =>
          obtain ⟨ND, rfl, kD, hbd, hND⟩ := hcut
          obtain ⟨wd, rfl⟩ : ∃ z : World, z = wc := ⟨_, rfl⟩
          replace OBK := Blk.by hbd OBK
          replace HBz := Lib.hid (HBz.out.by hbd)
          replace hbw := below_on hbd hbw
          replace hW4 := below_on hbd hW4
          have hds := hbd.size
          clear hbd cs' ct' lg qN e0 e1 e2 e3 lN
          have qN := OBK.cell
          have lN := OBK.lt
          have qD := kD.cell
          have lD := kD.lt
          have HSB : ∀ w' : World, Below wd.heap.size wd w' → (fun w' : World => (Blk w' N #[.int .i64 (s : Int), .int .i64 (t : Int), .int .i64 X, .int .i64 Y] 39 ∧ ∀ o, w'.cell? ⟨N, o, none⟩ = (#[.int .i64 (s : Int), .int .i64 (t : Int), .int .i64 X, .int .i64 Y] : Array Value)[o]?) ∧ (Blk w' ND #[.int .i64 DN, .int .i64 DD] 30 ∧ ∀ o, w'.cell? ⟨ND, o, none⟩ = (#[.int .i64 DN, .int .i64 DD] : Array Value)[o]?) ∧ Below wd.heap.size wd w') w' := fun w' hb => ⟨(Blk.by hb OBK).both, (Blk.by hb kD).both, hb⟩
          go_upto_region 10 with fail
          go_cut [15, 16] (fun s15 s16 wx => ∃ N1 N2 : Nat, s15 = .pointer (some ⟨N1, 0, none⟩) ∧ s16 = .pointer (some ⟨N2, 0, none⟩) ∧ Blk wx N1 #[.int .i64 ON, .int .i64 OD] 30 ∧ Blk wx N2 #[.int .i64 TN, .int .i64 TD] 30 ∧ Below wd.heap.size wd wx)
          case first =>
            go_region_held3 (fun w' : World => (Blk w' N #[.int .i64 (s : Int), .int .i64 (t : Int), .int .i64 X, .int .i64 Y] 39 ∧ ∀ o, w'.cell? ⟨N, o, none⟩ = (#[.int .i64 (s : Int), .int .i64 (t : Int), .int .i64 X, .int .i64 Y] : Array Value)[o]?) ∧ (Blk w' ND #[.int .i64 DN, .int .i64 DD] 30 ∧ ∀ o, w'.cell? ⟨ND, o, none⟩ = (#[.int .i64 DN, .int .i64 DD] : Array Value)[o]?) ∧ Below wd.heap.size wd w') (((try (obtain ⟨_, _, hSB⟩ := hHeld)); refine HSB _ ?_; ((repeat (first | (with_reducible exact Below.refl _ _) | (with_reducible refine below_drewN ?_ _) | (with_reducible refine Below.drew ?_) | (with_reducible refine below_al ?_ _) | (with_reducible refine below_on (by assumption) ?_) | ((with_reducible refine Below.setCell ?_ ?_ _); rotate_left; focus (first | omega | (simp; done) | (simp; omega))) | (with_reducible assumption))); done)))
              (first | (go_at_call_of 28 (Value.int IntKind.i64 DN); (with_reducible refine (HR2.out _).mono ?_); rintro e wA ⟨rfl, hbA⟩; have hsA := hbA.size; (try simp only [World.size_alloc, size_drewN, World.size_drew] at hsA); (try (refine with_fact (p := Blk wA (wd.heap.size) #[.int .i64 0, .int .i64 0] 30) (Blk.by hbA ?_) ?_; (focus ((repeat (first | (with_reducible assumption) | (with_reducible refine Blk.drewN ?_ _) | (with_reducible refine Blk.drew ?_) | ((with_reducible refine Blk.new _ ?_); focus (first | omega | (simp; done) | (simp; omega))) | (with_reducible refine Blk.past ?_ _) | ((with_reducible refine Blk.apart ?_ _ _ _ ?_); rotate_left; focus (first | omega | (simp; done) | (simp; omega))) | (with_reducible refine Blk.by (by assumption) ?_))); done)); intro kzwA_0; have czwA_0 := kzwA_0.cell; have fzwA_0 := kzwA_0.free; have lzwA_0 := kzwA_0.lt)); (try (refine with_fact (p := Blk wA (wd.heap.size + 1) #[.int .i64 0, .int .i64 0] 30) (Blk.by hbA ?_) ?_; (focus ((repeat (first | (with_reducible assumption) | (with_reducible refine Blk.drewN ?_ _) | (with_reducible refine Blk.drew ?_) | ((with_reducible refine Blk.new _ ?_); focus (first | omega | (simp; done) | (simp; omega))) | (with_reducible refine Blk.past ?_ _) | ((with_reducible refine Blk.apart ?_ _ _ _ ?_); rotate_left; focus (first | omega | (simp; done) | (simp; omega))) | (with_reducible refine Blk.by (by assumption) ?_))); done)); intro kzwA_1; have czwA_1 := kzwA_1.cell; have fzwA_1 := kzwA_1.free; have lzwA_1 := kzwA_1.lt))) | (go_at_call_of 28 (Value.int IntKind.i64 Y); (with_reducible refine (HR3.out _).mono ?_); rintro e wB ⟨rfl, hbB⟩; have hsB := hbB.size; (try simp only [World.size_alloc, size_drewN, World.size_drew] at hsB); (try (refine with_fact (p := Blk wB (wd.heap.size) #[.int .i64 0, .int .i64 0] 30) (Blk.by hbB ?_) ?_; (focus ((repeat (first | (with_reducible assumption) | (with_reducible refine Blk.drewN ?_ _) | (with_reducible refine Blk.drew ?_) | ((with_reducible refine Blk.new _ ?_); focus (first | omega | (simp; done) | (simp; omega))) | (with_reducible refine Blk.past ?_ _) | ((with_reducible refine Blk.apart ?_ _ _ _ ?_); rotate_left; focus (first | omega | (simp; done) | (simp; omega))) | (with_reducible refine Blk.by (by assumption) ?_))); done)); intro kzwB_0; have czwB_0 := kzwB_0.cell; have fzwB_0 := kzwB_0.free; have lzwB_0 := kzwB_0.lt)); (try (refine with_fact (p := Blk wB (wd.heap.size + 1) #[.int .i64 0, .int .i64 0] 30) (Blk.by hbB ?_) ?_; (focus ((repeat (first | (with_reducible assumption) | (with_reducible refine Blk.drewN ?_ _) | (with_reducible refine Blk.drew ?_) | ((with_reducible refine Blk.new _ ?_); focus (first | omega | (simp; done) | (simp; omega))) | (with_reducible refine Blk.past ?_ _) | ((with_reducible refine Blk.apart ?_ _ _ _ ?_); rotate_left; focus (first | omega | (simp; done) | (simp; omega))) | (with_reducible refine Blk.by (by assumption) ?_))); done)); intro kzwB_1; have czwB_1 := kzwB_1.cell; have fzwB_1 := kzwB_1.free; have lzwB_1 := kzwB_1.lt)); (try (refine with_fact (p := Blk wB (wA.heap.size) #[.int .i64 0, .int .i64 0] 30) (Blk.by hbB ?_) ?_; (focus ((repeat (first | (with_reducible assumption) | (with_reducible refine Blk.drewN ?_ _) | (with_reducible refine Blk.drew ?_) | ((with_reducible refine Blk.new _ ?_); focus (first | omega | (simp; done) | (simp; omega))) | (with_reducible refine Blk.past ?_ _) | ((with_reducible refine Blk.apart ?_ _ _ _ ?_); rotate_left; focus (first | omega | (simp; done) | (simp; omega))) | (with_reducible refine Blk.by (by assumption) ?_))); done)); intro kzwB_2; have czwB_2 := kzwB_2.cell; have fzwB_2 := kzwB_2.free; have lzwB_2 := kzwB_2.lt)); (try (refine with_fact (p := Blk wB (wA.heap.size + 1) #[.int .i64 0, .int .i64 0] 30) (Blk.by hbB ?_) ?_; (focus ((repeat (first | (with_reducible assumption) | (with_reducible refine Blk.drewN ?_ _) | (with_reducible refine Blk.drew ?_) | ((with_reducible refine Blk.new _ ?_); focus (first | omega | (simp; done) | (simp; omega))) | (with_reducible refine Blk.past ?_ _) | ((with_reducible refine Blk.apart ?_ _ _ _ ?_); rotate_left; focus (first | omega | (simp; done) | (simp; omega))) | (with_reducible refine Blk.by (by assumption) ?_))); done)); intro kzwB_3; have czwB_3 := kzwB_3.cell; have fzwB_3 := kzwB_3.free; have lzwB_3 := kzwB_3.lt))))
            all_goals (go_wp2_with fail; go_meet)
            all_goals
              refine ⟨_, _, rfl, rfl, ?_, ?_, ?_⟩
              · ((repeat (first | (with_reducible assumption) | (with_reducible exact Blk.new _ rfl) | (with_reducible refine Blk.set2 (a := .int .i64 0) (b := .int .i64 0) ?_) | ((with_reducible refine Blk.new _ ?_); focus (first | omega | (simp; done) | (simp; omega))) | ((with_reducible refine Blk.apart ?_ _ _ _ ?_); rotate_left; focus (first | omega | (simp; done) | (simp; omega))) | (with_reducible refine Blk.past ?_ _) | (with_reducible refine Blk.drewN ?_ _) | (with_reducible refine Blk.drew ?_) | (with_reducible refine Blk.by (by assumption) ?_))); done)
              · ((repeat (first | (with_reducible assumption) | (with_reducible exact Blk.new _ rfl) | (with_reducible refine Blk.set2 (a := .int .i64 0) (b := .int .i64 0) ?_) | ((with_reducible refine Blk.new _ ?_); focus (first | omega | (simp; done) | (simp; omega))) | ((with_reducible refine Blk.apart ?_ _ _ _ ?_); rotate_left; focus (first | omega | (simp; done) | (simp; omega))) | (with_reducible refine Blk.past ?_ _) | (with_reducible refine Blk.drewN ?_ _) | (with_reducible refine Blk.drew ?_) | (with_reducible refine Blk.by (by assumption) ?_))); done)
              · ((repeat (first | (with_reducible exact Below.refl _ _) | (with_reducible refine below_drewN ?_ _) | (with_reducible refine Below.drew ?_) | (with_reducible refine below_al ?_ _) | (with_reducible refine below_on (by assumption) ?_) | ((with_reducible refine Below.setCell ?_ ?_ _); rotate_left; focus (first | omega | (simp; done) | (simp; omega))) | (with_reducible assumption))); done)
          case rest =>
            obtain ⟨N1, N2, rfl, rfl, k1, k2, hbe⟩ := hcut
            obtain ⟨we, rfl⟩ : ∃ z : World, z = wc := ⟨_, rfl⟩
            have HBe := Lib.hid (HBz.out.by hbe)
            have hbw3 := below_on hbe hbw
            have hes := hbe.size
            clear hbe qN lN qD lD HSB hbw hW4 HBz OBK kD
            have q1 := k1.cell
            have l1 := k1.lt
            have q2 := k2.cell
            have l2 := k2.lt
            go_wp2_with fail
            (with_reducible refine (HRx.out _).mono ?_)
            rintro e w6 ⟨rfl, hb6⟩
            have HB6 := Lib.hid (HBe.out.by hb6)
            have hbw6 := below_on hb6 hbw3
            have hs6 := hb6.size
            clear hb6 q1 l1 q2 l2 k1 k2 HBe hbw3 HRx HR1 HR2 HR3
            go_wp2_with (refine list_pushRat (by rfl) _ _ (by rfl) M hi (.slice au k cu) ZS (by rfl) (HB6.out.by (by ((repeat (first | (with_reducible exact Below.refl _ _) | (with_reducible refine below_drewN ?_ _) | (with_reducible refine Below.drew ?_) | (with_reducible refine below_al ?_ _) | (with_reducible refine below_on (by assumption) ?_) | ((with_reducible refine Below.setCell ?_ ?_ _); rotate_left; focus (first | omega | (simp; done) | (simp; omega))) | (with_reducible assumption))); done))) w6.heap.size ⟨RN, RD⟩ (by rfl) (Blk.new _ rfl) (by omega) (by rw [HLEN.out]; omega) ?_; intro a5 c5 w5 hB5 hw5; have HB5 := Lib.hid hB5; rw [HLEN.out]; clear hB5)
            have hsz := hw5.size
            simp only [World.size_alloc] at hsz
            refine ⟨⟨k + 1, w5.heap.size, by omega, by go_num, Lib.hid ?_, by omega, hw5.below (below_al hbw6 _) (by omega)⟩, by simp [intOf]; omega⟩
            rw [HX.out, HXY.out]
            have := HB5.out
            rw [HLEN.out] at this
            exact this
      · obtain rfl : k = rs.length := by omega
        have i1 : ¬ (rs.length : Int) < (rs.length : Int) := by omega
        have HO := Lib.hid (show OwnRat wr w.heap.size wr.heap.size (.slice au rs.length cu) (curS ⟨n, rs⟩ p q) from by
          rw [HPF.out]
          have := HB.out.own.wide (show w.heap.size ≤ M by have := hW3.size; omega) hIs
          rwa [List.take_length] at this)
        have hbe := below_on hb hW3
        clear HB
        go_wp2
        exact bodyPost_ret (v := .tuple #[.slice au rs.length cu, .int .i64 0]) (by simp [results, Try.results13, go_sem]) rfl ⟨_, rfl, HO.out, hbe⟩
  · have HPN := Lib.hid (show curS x a b = [] from by unfold curS; rw [if_neg hc])
    obtain ⟨r, hr⟩ : ∃ r, nkC x a b = r := ⟨_, rfl⟩
    rw [hr] at HC hc ⊢
    have hrb : ((r : Int) != 0) = true := by simpa using hc
    clear hr hc
    go_enter Try.func13, Try.ntmps13
    go_wp2_with fail
    refine (HC.out _ _ (HNV.out.by (by ((repeat (first | (with_reducible exact Below.refl _ _) | (with_reducible refine below_drewN ?_ _) | (with_reducible refine Below.drew ?_) | (with_reducible refine below_al ?_ _) | (with_reducible refine below_on (by assumption) ?_) | ((with_reducible refine Below.setCell ?_ ?_ _); rotate_left; focus (first | omega | (simp; done) | (simp; omega))) | (with_reducible assumption))); done)))).mono ?_
    rintro e w1 ⟨rfl, hb1⟩
    have hW : Below w.heap.size w w1 := (by ((repeat (first | (with_reducible exact Below.refl _ _) | (with_reducible refine below_drewN ?_ _) | (with_reducible refine Below.drew ?_) | (with_reducible refine below_al ?_ _) | (with_reducible refine below_on (by assumption) ?_) | ((with_reducible refine Below.setCell ?_ ?_ _); rotate_left; focus (first | omega | (simp; done) | (simp; omega))) | (with_reducible assumption))); done))
    clear hb1
    go_wp2
    exact bodyPost_ret (v := .tuple #[.slice none 0 0, .int .i64 r]) (by simp [results, Try.results13, go_sem]) rfl ⟨_, rfl, .inl ⟨_, _, rfl, HPN.out⟩, hW⟩
end Go.Proofs.Ytjolkdckhmmenaa
