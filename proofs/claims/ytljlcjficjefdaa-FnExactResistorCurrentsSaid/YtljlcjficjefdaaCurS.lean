/- ResistorCurrents: the reference's. -/
import Derived.Test.YtljlcjficjefdaaCheck
import Derived.Test.YtljlcjficjefdaaSolve
import Derived.Deep.DeepCutAuto
import Derived.Deep.RegionHeld3
namespace Go.Proofs.Ytljlcjficjefdaa
open Go.RowKit
set_option linter.unusedVariables false
set_option linter.unusedSimpArgs false

theorem within_cell {lo hi b o : Nat} {w w' : World} {v : Value} (h : Within lo hi w w') (hc : w.cell? ⟨b, o, none⟩ = some v) (hne : b < lo ∨ hi ≤ b) : w'.cell? ⟨b, o, none⟩ = some v := by
  have hlt : b < w.heap.size := by
    rcases Nat.lt_or_ge b w.heap.size with h' | h'
    · exact h'
    · simp [World.cell?, Array.getElem?_eq_none h'] at hc
  have e := h.block b hlt hne
  simp only [World.cell?] at hc ⊢
  rw [e]; exact hc
set_option maxRecDepth 100000 in
set_option maxHeartbeats 8000000 in
theorem specCur_any (x : Nw) (a b : Int) (v : Value) (w : World) (h : NwV w v x) (hok : ∀ r ∈ x.rs, r.ok) (hf : Fits x.nodes) :
    Calls Try.prog 21 #[v, .int .i64 a, .int .i64 b] w fun e w' => ∃ v', e = .returned (.tuple #[v', .int .i64 (nkC x a b)]) ∧ OwnRat w' w.heap.size w'.heap.size v' (curS x a b) ∧ Below w.heap.size w w' := by
  have HC := Lib.hid (fun v w h => l26Check_any x a b v w h hok hf)
  have HNV := Lib.hid h
  obtain ⟨a0, c0, rfl⟩ := h.sized
  clear h hok
  by_cases hc : nkC x a b = 0
  · obtain ⟨hv, hiA, hiB, hab⟩ := nk_yes hc
    have HPS := Lib.hid (show curS x a b = x.rs.map fun r => rtOf (curQ x a b r * r.den) (nkP x a).tot from by unfold curS; rw [if_pos hc])
    have hT0 : 0 < (nkP x a).tot := by rw [nk_P hc]; exact (nkX hc).T_pos
    have hT1 : (nkP x a).tot ≤ 2560000000000000000 := by rw [nk_P hc]; exact (nkX hc).T_le
    have hS1 : ∀ u, 0 ≤ nkT x a b u ∧ nkT x a b u ≤ 2560000000000000000 := fun u => by rw [nk_T hc]; exact (nkX hc).S_bd u
    have hCE : ∀ r ∈ x.rs, nkT x a b r.a - nkT x a b r.b = r.num * curQ x a b r ∧ -2560000000000000000 ≤ curQ x a b r * r.den ∧ curQ x a b r * r.den ≤ 2560000000000000000 := fun r hr => (nkX hc).cur_eq hr
    obtain ⟨⟨n0, n1⟩, r8, each, _⟩ := nw_facts hv
    obtain ⟨nodes, rs⟩ := x
    dsimp only at *
    obtain ⟨n, rfl⟩ : ∃ n : Nat, nodes = n := ⟨nodes.toNat, by omega⟩
    obtain ⟨p, rfl⟩ : ∃ p : Nat, a = p := ⟨a.toNat, by omega⟩
    obtain ⟨q, rfl⟩ : ∃ q : Nat, b = q := ⟨b.toNat, by omega⟩
    rw [hc] at HC ⊢
    have HVV := Lib.hid hv
    have HCC := Lib.hid hc
    have HPART := Lib.hid (fun v w h => l26Part_any n rs p v w h (nw_ok (x := ⟨n, rs⟩) HVV.out rfl) (by omega))
    have HSUM := Lib.hid (fun v w (h : NwV w v ⟨n, partR rs p⟩) => show Calls Try.prog 35 #[v, .int .i64 (p : Int), .int .i64 (q : Int)] w fun e w' => ∃ g, e = .returned (.tuple #[.int .i64 (nkP ⟨n, rs⟩ (p : Int)).tot, .slice (some ⟨g, 0, none⟩) n n]) ∧ FBlk w' g n (fun u => nkT ⟨n, rs⟩ (p : Int) (q : Int) u) ∧ w.heap.size ≤ g ∧ Below w.heap.size w w' from l26Sums_any n (partR rs p) p q v w h (part_ok (x := ⟨n, rs⟩) HVV.out rfl p) (by omega) (by omega))
    have HT0 := Lib.hid hT0
    have HT1 := Lib.hid hT1
    have HS1 := Lib.hid hS1
    have HCE := Lib.hid hCE
    have HEA := Lib.hid each
    have HOK := Lib.hid (nw_ok (x := ⟨n, rs⟩) hv rfl)
    clear hv hc hab hT0 hT1 hS1 hCE each
    go_enter Try.func21, Try.ntmps21
    go_wp2_with fail
    refine (HC.out _ _ (HNV.out.by (by ((repeat (first | (with_reducible exact Below.refl _ _) | (with_reducible refine below_drewN ?_ _) | (with_reducible refine Below.drew ?_) | (with_reducible refine below_al ?_ _) | (with_reducible refine below_on (by assumption) ?_) | ((with_reducible refine Below.setCell ?_ ?_ _); rotate_left; focus (first | omega | (simp; done) | (simp; omega))) | (with_reducible assumption))); done)))).mono ?_
    rintro e w1 ⟨rfl, hb1⟩
    have kA : Blk w1 w.heap.size #[.int .i64 (n : Int), .slice a0 rs.length c0] 32 := (by ((repeat (first | (with_reducible assumption) | (with_reducible refine Blk.drewN ?_ _) | (with_reducible refine Blk.drew ?_) | ((with_reducible refine Blk.new _ ?_); focus (first | omega | (simp; done) | (simp; omega))) | (with_reducible refine Blk.past ?_ _) | ((with_reducible refine Blk.apart ?_ _ _ _ ?_); rotate_left; focus (first | omega | (simp; done) | (simp; omega))) | (with_reducible refine Blk.by (by assumption) ?_))); done))
    have hW : Below w.heap.size w w1 := (by ((repeat (first | (with_reducible exact Below.refl _ _) | (with_reducible refine below_drewN ?_ _) | (with_reducible refine Below.drew ?_) | (with_reducible refine below_al ?_ _) | (with_reducible refine below_on (by assumption) ?_) | ((with_reducible refine Below.setCell ?_ ?_ _); rotate_left; focus (first | omega | (simp; done) | (simp; omega))) | (with_reducible assumption))); done))
    have qA := kA.cell
    have lA := kA.lt
    clear hb1
    go_wp2_with fail
    refine (HPART.out _ _ (HNV.out.by hW)).mono ?_
    rintro e w2 ⟨v2, rfl, hO2, hb2⟩
    have HO2 := Lib.hid hO2.nw
    have hW2 := below_on hb2 hW
    have HB2W := Lib.hid (show Below w1.heap.size w1 w2 from hb2)
    clear hO2 hb2
    obtain ⟨a2, c2, rfl⟩ := HO2.out.sized
    go_wp2_with fail
    refine (HSUM.out _ _ HO2.out).mono ?_
    rintro e w3 ⟨g, rfl, hF3, hge3, hb3⟩
    have hW3 := below_on hb3 hW2
    have hsz2 := hW2.size
    have HB3W := Lib.hid (below_on hb3 HB2W.out)
    clear HO2 hb3 hW2
    obtain ⟨f, hff⟩ : ∃ f : Nat → Int, (fun (u : Nat) => nkT ⟨n, rs⟩ (p : Int) (q : Int) u) = f := ⟨_, rfl⟩
    have HFF := Lib.hid (fun (u : Nat) => congrFun hff u)
    rw [hff] at hF3
    obtain ⟨Tt, hTt⟩ : ∃ T, (nkP ⟨n, rs⟩ (p : Int)).tot = T := ⟨_, rfl⟩
    rw [hTt] at HPS HT0 HT1 ⊢
    obtain ⟨G, hG⟩ : ∃ G : Res → Int, (fun r => curQ ⟨n, rs⟩ (p : Int) (q : Int) r) = G := ⟨_, rfl⟩
    have HGG := Lib.hid (fun r => congrFun hG r)
    have HPF := Lib.hid (show curS ⟨n, rs⟩ p q = rs.map fun r => rtOf (G r * r.den) Tt from by
      rw [HPS.out]
      exact List.map_congr_left (fun r _ => by rw [← HGG.out r]))
    have hT0 := HT0.out
    have hT1 := HT1.out
    have HRD := Lib.hid (fun z w (h1 : -2560000000000000000 ≤ z) (h2 : z ≤ 2560000000000000000) => l26Reduce_any z Tt w (by omega) (by omega) (by omega) (by omega) (by omega))
    have hgl := hF3.lt
    have HF3 := Lib.hid hF3
    have HR := Lib.hid (show ResSl w3 (.slice a0 rs.length c0) rs from by obtain ⟨sv, e, hR⟩ := HNV.out; cases e; exact hR.by hW3)
    replace kA := Blk.by (HB3W.out) kA
    clear hff hF3 HPS HC HNV qA lA hTt hG
    obtain ⟨M, hM⟩ : ∃ M, w3.heap.size = M := ⟨_, rfl⟩
    have hM1 := Nat.le_of_eq hM
    have hM2 := Nat.le_of_eq hM.symm
    have HMM := Lib.hid hM
    clear hM
    go_wp2
    rw [HMM.out]
    go_loopw [11, 12] (fun u i wr => ∃ (k hi : Nat), k ≤ rs.length ∧ i = .int .i64 (k : Int) ∧ Hid (BldRat wr M hi u ((rs.take k).map fun r => rtOf (G r * r.den) Tt)) ∧ M < hi ∧ Below w3.heap.size w3 wr) (fun _ i _ => rs.length - (intOf i).toNat)
    case atStart =>
      refine ⟨0, M + 1, Nat.zero_le _, rfl, Lib.hid ?_, by omega, (by ((repeat (first | (with_reducible exact Below.refl _ _) | (with_reducible refine below_drewN ?_ _) | (with_reducible refine Below.drew ?_) | (with_reducible refine below_al ?_ _) | (with_reducible refine below_on (by assumption) ?_) | ((with_reducible refine Below.setCell ?_ ?_ _); rotate_left; focus (first | omega | (simp; done) | (simp; omega))) | (with_reducible assumption))); done))⟩
      exact BldRat.none (cs := #[]) (Blk.new _ HMM.out.symm) rfl (Nat.le_refl _) (by omega) (by simp; omega)
    case round =>
      obtain ⟨k, hi, hk, rfl, HB, hhi, hb⟩ := hrel
      obtain ⟨au, cu, rfl⟩ := HB.out.sized
      have hlen : ((rs.take k).map fun r => rtOf (G r * r.den) Tt).length = k := by rw [List.length_map, List.length_take]; omega
      have HLEN := Lib.hid hlen
      rw [hlen] at HB
      clear hlen
      have hIs := HB.out.1
      have kAr := Blk.by hb kA
      have qA := kAr.cell
      have lA := kAr.lt
      by_cases hlt : k < rs.length
      · obtain ⟨x, hx⟩ : ∃ x, rs[k]? = some x := ⟨_, List.getElem?_eq_getElem hlt⟩
        have hxm := List.mem_of_getElem? hx
        obtain ⟨s, t, es, et, hs, ht, _⟩ := HOK.out.at hx
        have HX := Lib.hid (show ((rs.take (k + 1)).map fun r => rtOf (G r * r.den) Tt) = ((rs.take k).map fun r => rtOf (G r * r.den) Tt) ++ [rtOf (G x * x.den) Tt] from by rw [List.take_add_one, hx]; simp)
        obtain ⟨c1, c2, c3⟩ := HCE.out x hxm
        obtain ⟨_, _, _, _, x5, x6⟩ := HEA.out x hxm
        rw [HGG.out x] at c1 c2 c3
        rcases HR.out with ⟨_, _, _, h2⟩ | ⟨bb, off, cap, he, h2, h3, h4⟩
        · rw [h2] at hlt; simp at hlt
        obtain ⟨rfl, rfl⟩ : a0 = some ⟨bb, off, none⟩ ∧ c0 = cap := by simpa using he
        obtain ⟨d0, d1, d2, d3⟩ := (h4 k x hx).by hb
        have hF := HF3.out.by hb
        have cs := hF.at hs
        have ct := hF.at ht
        have lF := hF.lt
        have b1 := HS1.out s
        have b2 := HS1.out t
        rw [HFF.out s] at b1
        rw [HFF.out t] at b2
        rw [es, et, HFF.out s, HFF.out t] at c1
        rw [es] at d0
        rw [et] at d1
        obtain ⟨Q, hQ⟩ : ∃ Q, G x = Q := ⟨_, rfl⟩
        rw [hQ] at c1 c2 c3 HX
        obtain ⟨X, hX⟩ : ∃ X, x.num = X := ⟨_, rfl⟩
        obtain ⟨Y, hY⟩ : ∃ Y, x.den = Y := ⟨_, rfl⟩
        rw [hX] at c1 x5 d2
        rw [hY] at c2 c3 x6 d3 HX
        obtain ⟨SA, hSA⟩ : ∃ z, f s = z := ⟨_, rfl⟩
        obtain ⟨SB, hSB⟩ : ∃ z, f t = z := ⟨_, rfl⟩
        rw [hSA] at cs b1 c1
        rw [hSB] at ct b2 c1
        have hq : (SA - SB).tdiv X = Q := by rw [c1, Int.mul_tdiv_cancel_left _ (by omega)]
        have hQb : -2560000000000000000 ≤ Q ∧ Q ≤ 2560000000000000000 := by
          have := tdiv_bd (SA - SB) X (by omega) 2560000000000000000 (by omega) (by omega)
          rw [hq] at this; exact this
        have hws : IntKind.i64.wrap (SA - SB) = SA - SB := by simp [IntKind.wrap, IntKind.bits, IntKind.signed]; omega
        have hwQ : IntKind.i64.wrap Q = Q := by simp [IntKind.wrap, IntKind.bits, IntKind.signed]; omega
        have hwp : IntKind.i64.wrap (Q * Y) = Q * Y := by simp [IntKind.wrap, IntKind.bits, IntKind.signed]; omega
        have HRx := Lib.hid (fun w => HRD.out (Q * Y) w c2 c3)
        obtain ⟨RN, hRN⟩ : ∃ z, redN (Q * Y) Tt = z := ⟨_, rfl⟩
        obtain ⟨RD, hRD⟩ : ∃ z, redD (Q * Y) Tt = z := ⟨_, rfl⟩
        rw [hRN, hRD] at HRx
        have HXY := Lib.hid (show rtOf (Q * Y) Tt = ⟨RN, RD⟩ from by unfold rtOf; rw [hRN, hRD])
        have hX0 : (X == 0) = false := by simp; omega
        have hX1 : X ≠ 0 := by omega
        obtain ⟨ZS, hZS⟩ : ∃ ZS, ((rs.take k).map fun r => rtOf (G r * r.den) Tt) = ZS := ⟨_, rfl⟩
        rw [hZS] at HB HLEN HX
        have j1 : (0 : Int) ≤ (k : Int) := by omega
        have j2 : (k : Int) < (rs.length : Int) := by omega
        have j3 : (0 : Int) ≤ (s : Int) := by omega
        have j4 : (s : Int) < (n : Int) := by omega
        have j5 : (0 : Int) ≤ (t : Int) := by omega
        have j6 : (t : Int) < (n : Int) := by omega
        clear hF h4 he hx hxm es et hQ hX hY hSA hSB hRN hRD hZS c1
        have OBK : Blk (wr.alloc (.cells #[.int .i64 (s : Int), .int .i64 (t : Int), .int .i64 X, .int .i64 Y] 49)) wr.heap.size #[.int .i64 (s : Int), .int .i64 (t : Int), .int .i64 X, .int .i64 Y] 49 := Blk.new _ rfl
        have hbz : Below wr.heap.size wr (wr.alloc (.cells #[.int .i64 (s : Int), .int .i64 (t : Int), .int .i64 X, .int .i64 Y] 49)) := (Below.refl _ wr).alloc (Nat.le_refl _) _
        have HBz := Lib.hid (HB.out.by hbz)
        have hbw := below_on hbz hb
        have cs' := cell_by' hbz cs
        have ct' := cell_by' hbz ct
        clear hbz HB
        go_upto_region 10 with fail
        obtain ⟨N, hN⟩ : ∃ N, wr.heap.size = N := ⟨_, rfl⟩
        have hNI : hi ≤ N := by omega
        have hN1 := Nat.le_of_eq hN
        have hN2 := Nat.le_of_eq hN.symm
        (try rw [hN])
        rw [hN] at OBK
        have hzs : (wr.alloc (.cells #[.int .i64 (s : Int), .int .i64 (t : Int), .int .i64 X, .int .i64 Y] 49)).heap.size = N + 1 := by simp; omega
        have hzs1 := Nat.le_of_eq hzs
        have hzs2 := Nat.le_of_eq hzs.symm
        clear hN hzs d0 d1 d2 d3 cs ct qA lA lF kAr hb hIs
        generalize wr.alloc (.cells #[.int .i64 (s : Int), .int .i64 (t : Int), .int .i64 X, .int .i64 Y] 49) = wz at *
        have e0 : wz.cell? ⟨N, 0, none⟩ = some (.int .i64 (s : Int)) := OBK.cell 0
        have e1 : wz.cell? ⟨N, 1, none⟩ = some (.int .i64 (t : Int)) := OBK.cell 1
        have e2 : wz.cell? ⟨N, 2, none⟩ = some (.int .i64 X) := OBK.cell 2
        have e3 : wz.cell? ⟨N, 3, none⟩ = some (.int .i64 Y) := OBK.cell 3
        have lN := OBK.lt
        go_region_held3 (fun w' => w'.cell? ⟨N, 0, none⟩ = some (.int .i64 (s : Int)) ∧ w'.cell? ⟨N, 1, none⟩ = some (.int .i64 (t : Int)) ∧ w'.cell? ⟨N, 2, none⟩ = some (.int .i64 X) ∧ w'.cell? ⟨N, 3, none⟩ = some (.int .i64 Y) ∧ w'.cell? ⟨g, s, none⟩ = some (.int .i64 SA) ∧ w'.cell? ⟨g, t, none⟩ = some (.int .i64 SB))
          (first | exact ⟨within_cell hw5 (cell_by' hbq e0) (by omega), within_cell hw5 (cell_by' hbq e1) (by omega), within_cell hw5 (cell_by' hbq e2) (by omega), within_cell hw5 (cell_by' hbq e3) (by omega), within_cell hw5 (cell_by' hbq cs') (by omega), within_cell hw5 (cell_by' hbq ct') (by omega)⟩ | exact ⟨e0, e1, e2, e3, cs', ct'⟩ | exact ⟨cell_by' hb4 e0, cell_by' hb4 e1, cell_by' hb4 e2, cell_by' hb4 e3, cell_by' hb4 cs', cell_by' hb4 ct'⟩ | exact ⟨cell_by' hbq e0, cell_by' hbq e1, cell_by' hbq e2, cell_by' hbq e3, cell_by' hbq cs', cell_by' hbq ct'⟩ | go_keep)
          (first | (go_at_call 37; (with_reducible refine (HRx.out _).mono ?_); rintro e w4 ⟨rfl, hb4⟩; have hs4 := hb4.size; (try simp only [size_drewN, World.size_drew] at hs4); have hbq : Below wz.heap.size wz (w4.alloc (.cells #[.int .i64 RN, .int .i64 RD] 27)) := (by ((repeat (first | (with_reducible exact Below.refl _ _) | (with_reducible refine below_drewN ?_ _) | (with_reducible refine Below.drew ?_) | (with_reducible refine below_al ?_ _) | (with_reducible refine below_on (by assumption) ?_) | ((with_reducible refine Below.setCell ?_ ?_ _); rotate_left; focus (first | omega | (simp; done) | (simp; omega))) | (with_reducible assumption))); done))) | (refine step_pushRat (by rfl) _ _ (by rfl) M hi (.slice au k cu) ZS (by rfl) (HBz.out.by hbq) w4.heap.size ⟨RN, RD⟩ (by rfl) (Blk.new _ rfl) (by omega) (by rw [HLEN.out]; omega) ?_; intro a5 c5 w5 hB5 hw5; have HB5 := Lib.hid hB5; rw [HLEN.out]; clear hB5))
        go_wp2_with fail
        have hsz := hw5.size
        simp only [World.size_alloc] at hsz
        refine ⟨⟨k + 1, w5.heap.size, by omega, by go_num, Lib.hid ?_, by omega, hw5.below (below_on hbq hbw) (by omega)⟩, by simp [intOf]; omega⟩
        rw [HX.out, HXY.out]
        have := HB5.out
        rw [HLEN.out] at this
        exact this
      · obtain rfl : k = rs.length := by omega
        have i1 : ¬ (rs.length : Int) < (rs.length : Int) := by omega
        have HO := Lib.hid (show OwnRat wr w.heap.size wr.heap.size (.slice au rs.length cu) (curS ⟨n, rs⟩ p q) from by
          rw [HPF.out]
          have := HB.out.own.wide (show w.heap.size ≤ M by have := hW3.size; omega) hIs
          rwa [List.take_length] at this)
        have hbe := below_on hb hW3
        clear HB
        go_wp2
        exact bodyPost_ret (v := .tuple #[.slice au rs.length cu, .int .i64 0]) (by simp [results, Try.results21, go_sem]) rfl ⟨_, rfl, HO.out, hbe⟩
  · have HPN := Lib.hid (show curS x a b = [] from by unfold curS; rw [if_neg hc])
    obtain ⟨r, hr⟩ : ∃ r, nkC x a b = r := ⟨_, rfl⟩
    rw [hr] at HC hc ⊢
    have hrb : ((r : Int) != 0) = true := by simpa using hc
    clear hr hc
    go_enter Try.func21, Try.ntmps21
    go_wp2_with fail
    refine (HC.out _ _ (HNV.out.by (by ((repeat (first | (with_reducible exact Below.refl _ _) | (with_reducible refine below_drewN ?_ _) | (with_reducible refine Below.drew ?_) | (with_reducible refine below_al ?_ _) | (with_reducible refine below_on (by assumption) ?_) | ((with_reducible refine Below.setCell ?_ ?_ _); rotate_left; focus (first | omega | (simp; done) | (simp; omega))) | (with_reducible assumption))); done)))).mono ?_
    rintro e w1 ⟨rfl, hb1⟩
    have hW : Below w.heap.size w w1 := (by ((repeat (first | (with_reducible exact Below.refl _ _) | (with_reducible refine below_drewN ?_ _) | (with_reducible refine Below.drew ?_) | (with_reducible refine below_al ?_ _) | (with_reducible refine below_on (by assumption) ?_) | ((with_reducible refine Below.setCell ?_ ?_ _); rotate_left; focus (first | omega | (simp; done) | (simp; omega))) | (with_reducible assumption))); done))
    clear hb1
    go_wp2
    exact bodyPost_ret (v := .tuple #[.slice (some ⟨w1.heap.size, 0, none⟩) 0 0, .int .i64 r]) (by simp [results, Try.results21, go_sem]) rfl ⟨_, rfl, .inl ⟨_, _, rfl, HPN.out⟩, below_al hW _⟩

end Go.Proofs.Ytljlcjficjefdaa
