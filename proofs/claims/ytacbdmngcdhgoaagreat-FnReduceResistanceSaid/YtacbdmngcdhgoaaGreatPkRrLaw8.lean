/- Contracts and plain laws, part 8, for the statement's proof. -/
import Derived.Test.YtacbdmngcdhgoaaGreatPkRrLaw7
import Derived.Deep.RegionHeld3
namespace Go.Proofs.YtacbdmngcdhgoaaGreat
open Go.RowKit
set_option linter.unusedVariables false
set_option linter.unusedSimpArgs false
theorem bit_all {m i : Nat} (h : i < m) : bit (2 ^ m - 1) i = true := by
  unfold bit; rw [Nat.testBit_two_pow_sub_one]; simpa using h
theorem sel_all (E : Nat → Nat × Nat) (m : Nat) : selF E (bit (2 ^ m - 1)) m = selF E (fun _ => true) m := selF_congr (fun i hi => bit_all hi)
theorem pow_small {m : Nat} (h : m ≤ 8) : 1 ≤ 2 ^ m ∧ 2 ^ m ≤ 256 := by
  have := Nat.pow_le_pow_right (show 0 < 2 by omega) h
  have := Nat.pow_le_pow_right (show 0 < 2 by omega) (Nat.zero_le m)
  omega
set_option maxRecDepth 100000 in
set_option maxHeartbeats 4000000 in
theorem l26Weight_any (n : Nat) (rs : List Res) (s : Nat) (v : Value) (w : World) (h : NwV w v ⟨n, rs⟩) (hr8 : rs.length ≤ 8) (hs : s < 256) (hp : ∀ i, i < rs.length → 1 ≤ rnm rs i ∧ 1 ≤ rdn rs i) (hm : mxF (rnm rs) (rdn rs) rs.length ≤ 10000000000000000) :
    Calls Tryz.prog 108 #[v, .int .i64 (s : Int)] w fun e w' => e = .returned (.tuple #[.int .i64 (wtF (rnm rs) (rdn rs) (bit s) rs.length), .int .i64 (cntF (bit s) rs.length : Nat)]) ∧ Below w.heap.size w w' := by
  have HIN := Lib.hid (fun i hi w => l26In_any s i hs hi w)
  have HP := Lib.hid hp
  have HM := Lib.hid (fun (k : Nat) (hk : k ≤ rs.length) => show 1 ≤ wtF (rnm rs) (rdn rs) (bit s) k ∧ wtF (rnm rs) (rdn rs) (bit s) k ≤ 10000000000000000 from by
    have a := wtF_bd (nm := rnm rs) (dn := rdn rs) (bit s) (k := k) (fun i hi => hp i (by omega))
    have b := mxF_mono (nm := rnm rs) (dn := rdn rs) (k := k) (m := rs.length) hp hk
    omega)
  obtain ⟨sv, rfl, hR⟩ := h
  have HR := Lib.hid hR
  obtain ⟨a, c, rfl⟩ := hR.len
  clear hR hp hm
  go_enter Tryz.func108, Tryz.ntmps108
  go_wp2
  go_loopw [6, 7, 8] (fun u x i wr => ∃ (k : Nat), k ≤ rs.length ∧ i = .int .i64 (k : Int) ∧ u = .int .i64 (wtF (rnm rs) (rdn rs) (bit s) k) ∧ x = .int .i64 (cntF (bit s) k : Nat) ∧ Blk wr w.heap.size #[.int .i64 (n : Int), .slice a rs.length c] 55 ∧ Below w.heap.size w wr) (fun _ _ i _ => rs.length - (intOf i).toNat)
  case atStart => exact ⟨0, Nat.zero_le _, rfl, rfl, rfl, blkT, blwT⟩
  case round =>
    obtain ⟨k, hk, rfl, rfl, rfl, kA, hb⟩ := hrel
    have qA := kA.cell
    have lA := kA.lt
    have hcl := cntF_le (bit s) k
    obtain ⟨hw1, hw2⟩ := HM.out k hk
    by_cases hlt : k < rs.length
    · obtain ⟨x, hx⟩ : ∃ x, rs[k]? = some x := ⟨_, List.getElem?_eq_getElem hlt⟩
      rcases HR.out with ⟨_, _, _, h2⟩ | ⟨bb, off, cap, he, h2, h3, h4⟩
      · rw [h2] at hlt; simp at hlt
      obtain ⟨rfl, rfl⟩ : a = some ⟨bb, off, none⟩ ∧ c = cap := by simpa using he
      obtain ⟨_, _, d2, d3⟩ := (h4 k x hx).by hb
      obtain ⟨hv1, hv2⟩ := HM.out (k + 1) hlt
      have hn := rnm_at hx
      have hd := rdn_at hx
      have HIm := Lib.hid (fun w => HIN.out k (by omega) w)
      have j1 : (0 : Int) ≤ (k : Int) := by omega
      have j2 : (k : Int) < (rs.length : Int) := by omega
      cases hbt : bit s k with
      | true =>
        have e1 : wtF (rnm rs) (rdn rs) (bit s) (k + 1) = wtF (rnm rs) (rdn rs) (bit s) k * x.den := by simp only [wtF]; rw [if_pos hbt, hd]
        have e2 : cntF (bit s) (k + 1) = cntF (bit s) k + 1 := by simp only [cntF]; rw [if_pos hbt]
        rw [e1] at hv1 hv2
        have HE1 := Lib.hid e1
        have HE2 := Lib.hid e2
        rw [hbt] at HIm
        clear e1 e2 hbt hn hd h4 he hx
        generalize wtF (rnm rs) (rdn rs) (bit s) k = W at *
        generalize cntF (bit s) k = C at *
        generalize x.den = D at *
        have hwr : IntKind.i64.wrap (W * D) = W * D := by simp [IntKind.wrap, IntKind.bits, IntKind.signed]; omega
        go_wp2_with (go_at_call 121; refine (HIm.out _).mono ?_; rintro e w' ⟨rfl, rfl⟩)
        exact ⟨⟨k + 1, by omega, by go_num, by rw [HE1.out], by rw [HE2.out]; go_num, kA, hb⟩, by simp [intOf]; omega⟩
      | false =>
        have e1 : wtF (rnm rs) (rdn rs) (bit s) (k + 1) = wtF (rnm rs) (rdn rs) (bit s) k * x.num := by simp only [wtF]; rw [if_neg (by rw [hbt]; decide), hn]
        have e2 : cntF (bit s) (k + 1) = cntF (bit s) k := by simp only [cntF]; rw [if_neg (by rw [hbt]; decide)]; omega
        rw [e1] at hv1 hv2
        have HE1 := Lib.hid e1
        have HE2 := Lib.hid e2
        rw [hbt] at HIm
        clear e1 e2 hbt hn hd h4 he hx
        generalize wtF (rnm rs) (rdn rs) (bit s) k = W at *
        generalize cntF (bit s) k = C at *
        generalize x.num = D at *
        have hwr : IntKind.i64.wrap (W * D) = W * D := by simp [IntKind.wrap, IntKind.bits, IntKind.signed]; omega
        go_wp2_with (go_at_call 121; refine (HIm.out _).mono ?_; rintro e w' ⟨rfl, rfl⟩)
        exact ⟨⟨k + 1, by omega, by go_num, by rw [HE1.out], by rw [HE2.out], kA, hb⟩, by simp [intOf]; omega⟩
    · obtain rfl : k = rs.length := by omega
      have i2 : ¬ (rs.length : Int) < (rs.length : Int) := by omega
      go_wp2
      exact bodyPost_ret (v := .tuple #[.int .i64 (wtF (rnm rs) (rdn rs) (bit s) rs.length), .int .i64 (cntF (bit s) rs.length : Nat)]) (by simp [results, Tryz.results108, go_sem]) rfl ⟨rfl, hb⟩
set_option maxRecDepth 100000 in
set_option maxHeartbeats 4000000 in
theorem l26Roots_any (n : Nat) (f : Nat → Nat) (v : Value) (w : World) (h : IntSl w v (labL n f)) (hn : n ≤ 6) (hf : ∀ i, i < n → f i < n) :
    Calls Tryz.prog 107 #[v] w fun e w' => e = .returned (.int .i64 (rootsF f n : Nat)) ∧ w = w' := by
  have HR := Lib.hid h
  obtain ⟨a, c, rfl⟩ := h.len
  rw [length_labL] at HR ⊢
  clear h
  go_enter Tryz.func107, Tryz.ntmps107
  go_wp2
  go_loopw [3, 4] (fun x i wr => ∃ (k : Nat), k ≤ n ∧ i = .int .i64 (k : Int) ∧ x = .int .i64 (rootsF f k : Nat) ∧ wr = w) (fun _ i _ => n - (intOf i).toNat)
  case atStart => exact ⟨0, Nat.zero_le _, rfl, rfl, rfl⟩
  case round =>
    obtain ⟨k, hk, rfl, rfl, rfl⟩ := hrel
    have hcl := rootsF_le f k
    by_cases hlt : k < n
    · rcases HR.out with ⟨_, _, _, h2⟩ | ⟨bb, off, cap, he, h2, h3, h4⟩
      · have := congrArg List.length h2; rw [length_labL] at this; simp at this; omega
      rw [length_labL] at he
      obtain ⟨rfl, rfl⟩ : a = some ⟨bb, off, none⟩ ∧ c = cap := by simpa using he
      have d := h4 k _ (labL_get f hlt)
      have hfk := hf k hlt
      have j1 : (0 : Int) ≤ (k : Int) := by omega
      have j2 : (k : Int) < (n : Int) := by omega
      by_cases e : f k = k
      · have e2 : rootsF f (k + 1) = rootsF f k + 1 := by simp only [rootsF]; rw [if_pos e]
        have HE := Lib.hid e2
        rw [e] at d
        generalize rootsF f k = R at *
        clear e e2 h4 he
        go_wp2
        exact ⟨⟨k + 1, by omega, by go_num, by rw [HE.out]; go_num, (by first | rfl | trivial)⟩, by simp [intOf]; omega⟩
      · have e2 : rootsF f (k + 1) = rootsF f k := by simp only [rootsF]; rw [if_neg e]; omega
        have HE := Lib.hid e2
        have hne : (((f k : Nat) : Int) == (k : Int)) = false := by simp; omega
        generalize f k = y at *
        generalize rootsF f k = R at *
        clear e e2 h4 he
        go_wp2
        exact ⟨⟨k + 1, by omega, by go_num, by rw [HE.out], (by first | rfl | trivial)⟩, by simp [intOf]; omega⟩
    · obtain rfl : k = n := by omega
      have i2 : ¬ (k : Int) < (k : Int) := by omega
      go_wp2
      go_ret
      exact ⟨rfl, rfl⟩
theorem full_set : ∀ m : Nat, m < 9 → wrap64 (wrap64 (2 ^ m) - 1) = ((2 ^ m - 1 : Nat) : Int) := by decide +kernel
theorem full_pow : ∀ m : Nat, m < 9 → wrap64 (2 ^ m) = ((2 ^ m : Nat) : Int) := by decide +kernel
def partR' (rs : List Res) (b k : Nat) : List Res := (rs.take k).filter (fun r => decide (allL rs r.a.toNat = allL rs b))
theorem part_take {rs : List Res} {b k : Nat} {x : Res} (h : rs[k]? = some x) : partR' rs b (k + 1) = if allL rs x.a.toNat = allL rs b then partR' rs b k ++ [x] else partR' rs b k := by
  unfold partR'
  rw [List.take_add_one, h, List.filter_append]
  by_cases e : allL rs x.a.toNat = allL rs b
  · rw [if_pos e]; simp [e]
  · rw [if_neg e]; simp [e]
set_option maxRecDepth 100000 in
set_option maxHeartbeats 8000000 in
theorem l26Part_any (n : Nat) (rs : List Res) (b : Nat) (v : Value) (w : World) (h : NwV w v ⟨n, rs⟩) (hok : NwOk n rs) (hb0 : b < n) :
    Calls Tryz.prog 71 #[v, .int .i64 (b : Int)] w fun e w' => ∃ v', e = .returned v' ∧ OwnNw w' w.heap.size w'.heap.size v' ⟨n, partR rs b⟩ ∧ Below w.heap.size w w' := by
  have hpw := pow_small hok.2.1
  have HT := fun (z : Int) (hz : z = ((2 ^ rs.length - 1 : Nat) : Int)) v w h => by have q := l26Trees_any n rs (2 ^ rs.length - 1) v w h hok (by omega); rw [sel_all, ← hz] at q; exact q
  replace HT := Lib.hid HT
  have HOK := Lib.hid hok
  obtain ⟨hn6, hr8, _⟩ := hok
  have HV := Lib.hid h
  obtain ⟨sv, rfl, hR⟩ := h
  have HR := Lib.hid hR
  obtain ⟨a, c, rfl⟩ := hR.len
  clear hR hpw
  go_enter Tryz.func71, Tryz.ntmps71
  go_wp2_with fail
  refine (HT.out _ (full_set rs.length (by omega)) _ _ (HV.out.by blwT)).mono ?_
  rintro e w1 ⟨v1, rfl, hB1, hb1⟩
  have kA : Blk w1 w.heap.size #[.int .i64 (n : Int), .slice a rs.length c] 55 := blkT
  have kR : Blk w1 (w.heap.size + 1) #[.int .i64 0, .slice none 0 0] 55 := blkT
  have hW : Below w.heap.size w w1 := blwT
  have hs1 := hb1.size
  simp only [World.size_alloc] at hs1
  obtain ⟨a1, c1, rfl⟩ := hB1.sized
  rw [length_labL] at hB1 ⊢
  have HB1 := Lib.hid hB1.own.sl
  have qA := kA.cell
  have lA := kA.lt
  obtain ⟨T, hT⟩ : ∃ T, w1.heap.size = T := ⟨_, rfl⟩
  have hTT := Nat.le_of_eq hT
  have hTT2 := Nat.le_of_eq hT.symm
  have HL := Lib.hid hT
  clear hB1 hb1 HT HV hT
  go_wp2
  rw [HL.out]
  go_loopw [7] (fun i wr => ∃ (k hi : Nat) (v' : Value), k ≤ rs.length ∧ i = .int .i64 (k : Int) ∧ Hid (BldRes wr (T + 1) hi v' (partR' rs b k)) ∧ Blk wr T #[.int .i64 (n : Int), v'] 55 ∧ T + 1 ≤ hi ∧ Blk wr w.heap.size #[.int .i64 (n : Int), .slice a rs.length c] 55 ∧ Blk wr (w.heap.size + 1) #[.int .i64 0, .slice none 0 0] 55 ∧ Below w1.heap.size w1 wr ∧ Below w.heap.size w wr) (fun i _ => rs.length - (intOf i).toNat)
  case atStart =>
    refine ⟨0, T + 1, .slice none 0 0, Nat.zero_le _, rfl, Lib.hid ?_, ?_, Nat.le_refl _, blkT, blkT, (by repeat (first | (with_reducible exact Below.refl _ _) | (with_reducible refine below_al ?_ _))), blwT⟩
    · have := BldRes.nil (w1.alloc (.cells #[.int .i64 (n : Int), .slice none 0 0] 55)) (T + 1)
      have e : (w1.alloc (.cells #[.int .i64 (n : Int), .slice none 0 0] 55)).heap.size = T + 1 := by simp; omega
      rw [e] at this
      first | exact this | exact BldRes.by (by first | exact Below.refl _ _ | ((repeat (first | (with_reducible exact Below.refl _ _) | (with_reducible refine below_drewN ?_ _) | (with_reducible refine Below.drew ?_) | (with_reducible refine below_al ?_ _) | (with_reducible refine below_on (by assumption) ?_) | ((with_reducible refine Below.setCell ?_ ?_ _); rotate_left; focus (first | omega | (simp; done) | (simp; omega))) | (with_reducible assumption))); done)) this
    · first | exact Blk.new _ HL.out.symm | ((repeat (first | (with_reducible assumption) | (with_reducible refine Blk.drewN ?_ _) | (with_reducible refine Blk.drew ?_) | ((with_reducible refine Blk.new _ ?_); focus (first | omega | (simp; done) | (simp; omega))) | (with_reducible refine Blk.past ?_ _) | ((with_reducible refine Blk.apart ?_ _ _ _ ?_); rotate_left; focus (first | omega | (simp; done) | (simp; omega))) | (with_reducible refine Blk.by (by assumption) ?_))); done)
  case round =>
    clear kA kR hW qA lA
    obtain ⟨k, hi, v', hk, rfl, HB, kO, hhi, kA, kR, HBW, hb⟩ := hrel
    have HL1 := Lib.hid (HB1.out.by HBW)
    have hzw := HBW.size
    obtain ⟨au, cu, rfl⟩ := HB.out.sized
    obtain ⟨L, hL⟩ : ∃ L, (partR' rs b k).length = L := ⟨_, rfl⟩
    have hLk : L ≤ k := by rw [← hL]; exact Nat.le_trans (List.length_filter_le _ _) (List.length_take_le _ _)
    have HLL := Lib.hid hL
    rw [hL] at HB kO
    clear hL
    have qA := kA.cell
    have lA := kA.lt
    have lO := kO.lt
    have hIs := HB.out.1
    by_cases hlt : k < rs.length
    · obtain ⟨x, hx⟩ : ∃ x, rs[k]? = some x := ⟨_, List.getElem?_eq_getElem hlt⟩
      obtain ⟨p, q, ep, eq, hp, hq, hE⟩ := HOK.out.at hx
      have HPT := Lib.hid (part_take (b := b) hx)
      rcases HR.out with ⟨_, _, _, h2⟩ | ⟨bb, off, cap, he, h2, h3, h4⟩
      · rw [h2] at hlt; simp at hlt
      obtain ⟨rfl, rfl⟩ : a = some ⟨bb, off, none⟩ ∧ c = cap := by simpa using he
      obtain ⟨g0, g1, g2, g3⟩ := h4 k x hx
      rw [ep] at g0
      rw [eq] at g1
      obtain ⟨d0, d1, d2, d3⟩ := (h4 k x hx).by hb
      rw [ep] at d0
      rw [eq] at d1
      rcases HL1.out with ⟨_, _, _, h2'⟩ | ⟨lb, lf, lc, le, _, _, l4⟩
      · have := congrArg List.length h2'; rw [length_labL] at this; simp at this; omega
      rw [length_labL] at le
      obtain ⟨rfl, rfl⟩ : a1 = some ⟨lb, lf, none⟩ ∧ c1 = lc := by simpa using le
      have e1 := l4 p _ (labL_get (allL rs) hp)
      have e2 := l4 b _ (labL_get (allL rs) hb0)
      have j1 : (0 : Int) ≤ (k : Int) := by omega
      have j2 : (k : Int) < (rs.length : Int) := by omega
      have j3 : (0 : Int) ≤ (p : Int) := by omega
      have j4 : (p : Int) < (n : Int) := by omega
      have j5 : (0 : Int) ≤ (b : Int) := by omega
      have j6 : (b : Int) < (n : Int) := by omega
      have HEP := Lib.hid (show x = ⟨p, q, x.num, x.den⟩ from by cases x; simp only at ep eq; subst ep eq; rfl)
      have HXA := Lib.hid (show x.a.toNat = p by omega)
      obtain ⟨X, hX⟩ : ∃ X, x.num = X := ⟨_, rfl⟩
      obtain ⟨Y, hY⟩ : ∃ Y, x.den = Y := ⟨_, rfl⟩
      rw [hX] at d2 g2 HEP
      rw [hY] at d3 g3 HEP
      clear h4 l4 he le hx ep eq hE hX hY
      by_cases hm : allL rs p = allL rs b
      · rw [HXA.out, if_pos hm] at HPT
        rw [hm] at e1
        have HM := Lib.hid hm
        clear hm
        go_wp2
        go_quiet (fail)
        go_wp2_with fail
        have kA' := kA.drewN nq
        have kR' := kR.drewN nq
        have kO' := kO.drewN nq
        have HB' := Lib.hid (HB.out.by (below_of_drewN wr nq))
        replace HBW := below_drewN HBW nq
        replace hzw := HBW.size
        have hb' := below_drewN hb nq
        have d0' := cell_by' (below_of_drewN wr nq) d0
        have d1' := cell_by' (below_of_drewN wr nq) d1
        have d2' := cell_by' (below_of_drewN wr nq) d2
        have d3' := cell_by' (below_of_drewN wr nq) d3
        have hIs' : hi ≤ (wr.drewN nq).heap.size := hIs
        clear HB HL1 kA kR kO hb d0 d1 d2 d3 qA lA lO hIs e1 e2
        generalize wr.drewN nq = wz at *
        have cO : wz.cell? ⟨T, 1, none⟩ = some (.slice au L cu) := kO'.cell 1
        refine wp_region_any (by kernel_rfl) (wpAny_of_E (S := (fun w' : World => (∀ o, w'.cell? ⟨w.heap.size, o, none⟩ = (#[.int .i64 (n : Int), .slice (some ⟨bb, off, none⟩) rs.length c] : Array Value)[o]?) ∧ w'.cell? ⟨T, 1, none⟩ = some (.slice au L cu) ∧ w'.cell? ⟨bb, off + k * 4, none⟩ = some (.int .i64 (p : Int)) ∧ w'.cell? ⟨bb, off + k * 4 + 1, none⟩ = some (.int .i64 (q : Int)) ∧ w'.cell? ⟨bb, off + k * 4 + 2, none⟩ = some (.int .i64 X) ∧ w'.cell? ⟨bb, off + k * 4 + 3, none⟩ = some (.int .i64 Y))) (l := 10) _ _ _ _ ?_)
        have hS : (fun w' : World => (∀ o, w'.cell? ⟨w.heap.size, o, none⟩ = (#[.int .i64 (n : Int), .slice (some ⟨bb, off, none⟩) rs.length c] : Array Value)[o]?) ∧ w'.cell? ⟨T, 1, none⟩ = some (.slice au L cu) ∧ w'.cell? ⟨bb, off + k * 4, none⟩ = some (.int .i64 (p : Int)) ∧ w'.cell? ⟨bb, off + k * 4 + 1, none⟩ = some (.int .i64 (q : Int)) ∧ w'.cell? ⟨bb, off + k * 4 + 2, none⟩ = some (.int .i64 X) ∧ w'.cell? ⟨bb, off + k * 4 + 3, none⟩ = some (.int .i64 Y)) { wz with drawn := wz.drawn + 1 } := ⟨kA'.cell, cO, d0', d1', d2', d3'⟩
        change wpAnyE _ _ _ _ _ _ _ _ _ wz.drew
        refine wpAnyE_take (i := 0) (v := ?_) rfl (by kernel_rfl) (fun _ _ _ h => h) (Or.inl ⟨by rfl, ?_⟩) hS ?_
        rotate_left
        · intro w hSw; (try dsimp only at hSw); go_simp; (try with_reducible rfl)
        try simp only [Act.put, List.setIfInBounds_toArray, List.set_cons_zero, List.set_cons_succ]
        refine wpAnyE_take (i := 1) (v := ?_) rfl (by kernel_rfl) (fun _ _ _ h => h) (Or.inl ⟨by rfl, ?_⟩) hS ?_
        rotate_left
        · intro w hSw; (try dsimp only at hSw); go_simp; (try with_reducible rfl)
        try simp only [Act.put, List.setIfInBounds_toArray, List.set_cons_zero, List.set_cons_succ]
        refine wpAnyE_take (i := 2) (v := ?_) rfl (by kernel_rfl) (fun _ _ _ h => h) (Or.inl ⟨by rfl, ?_⟩) hS ?_
        rotate_left
        · intro w hSw; (try dsimp only at hSw); go_simp; (try with_reducible rfl)
        try simp only [Act.put, List.setIfInBounds_toArray, List.set_cons_zero, List.set_cons_succ]
        refine wpAnyE_take (i := 3) (v := ?_) rfl (by kernel_rfl) (fun _ _ _ h => h) (Or.inl ⟨by rfl, ?_⟩) hS ?_
        rotate_left
        · intro w hSw; (try dsimp only at hSw); go_simp; (try with_reducible rfl)
        try simp only [Act.put, List.setIfInBounds_toArray, List.set_cons_zero, List.set_cons_succ]
        refine wpAnyE_take (i := 4) (v := ?_) rfl (by kernel_rfl) (fun _ _ _ h => h) (Or.inl ⟨by rfl, ?_⟩) hS ?_
        rotate_left
        · intro w hSw; (try dsimp only at hSw); go_simp; (try with_reducible rfl)
        try simp only [Act.put, List.setIfInBounds_toArray, List.set_cons_zero, List.set_cons_succ]
        refine wpAnyE_take (i := 5) (v := ?_) rfl (by kernel_rfl) (fun _ _ _ h => h) (Or.inl ⟨by rfl, ?_⟩) hS ?_
        rotate_left
        · intro w hSw; (try dsimp only at hSw); go_simp; (try with_reducible rfl)
        try simp only [Act.put, List.setIfInBounds_toArray, List.set_cons_zero, List.set_cons_succ]
        refine wpAnyE_take (i := 6) (v := ?_) rfl (by kernel_rfl) (fun _ _ _ h => h) (Or.inl ⟨by rfl, ?_⟩) hS ?_
        rotate_left
        · intro w hSw; (try dsimp only at hSw); go_simp; (try with_reducible rfl)
        try simp only [Act.put, List.setIfInBounds_toArray, List.set_cons_zero, List.set_cons_succ]
        refine wpAnyE_one (k := 7) (by kernel_rfl) rfl (fun K hK => ?_)
        go_simp
        refine hK.out _ _ (fun _ => ?_) ?_
        · have ba := (Below.refl _ wz.drew).alloc (Nat.le_refl _) (.cells #[.int .i64 (p : Int), .int .i64 (q : Int), .int .i64 X, .int .i64 Y] 57)
          exact ⟨((kA'.drew).past _).cell, ((kO'.drew).past _).cell 1, cell_by' ba d0', cell_by' ba d1', cell_by' ba d2', cell_by' ba d3'⟩
        try simp only [Act.put, List.setIfInBounds_toArray, List.set_cons_zero, List.set_cons_succ]
        refine wpAnyE_one (k := 8) (by kernel_rfl) rfl (fun K hK => ?_)
        refine step_pushRes (by rfl) _ _ (by rfl) (T + 1) hi (.slice au L cu) (partR' rs b k) (by rfl) (HB'.out.by (((Below.refl _ wz).drew).alloc (Nat.le_refl _) _)) wz.heap.size ⟨p, q, X, Y⟩ (by rfl) (Blk.new _ rfl) hhi (by have := HLL.out; omega) ?_
        intro a' c' w3 hBl3 hw3
        have hll := HLL.out
        rw [hll] at hBl3 ⊢
        have HBL3 := Lib.hid hBl3
        clear hBl3 hll
        have kA3 := hw3.blk (kA'.drew.past (.cells #[.int .i64 (p : Int), .int .i64 (q : Int), .int .i64 X, .int .i64 Y] 57)) (by omega)
        have kO3 := hw3.blk (kO'.drew.past (.cells #[.int .i64 (p : Int), .int .i64 (q : Int), .int .i64 X, .int .i64 Y] 57)) (by omega)
        have kR3 := hw3.blk (kR'.drew.past (.cells #[.int .i64 (p : Int), .int .i64 (q : Int), .int .i64 X, .int .i64 Y] 57)) (by omega)
        have hb3 := hw3.below (below_al (hb'.drew) (.cells #[.int .i64 (p : Int), .int .i64 (q : Int), .int .i64 X, .int .i64 Y] 57)) (by omega)
        have hb3w := hw3.below (below_al (HBW.drew) (.cells #[.int .i64 (p : Int), .int .i64 (q : Int), .int .i64 X, .int .i64 Y] 57)) (by omega)
        have cO3 : w3.cell? ⟨T, 1, none⟩ = some (.slice au L cu) := kO3.cell 1
        have fO3 : w3.frozen? ⟨T, 1, none⟩ = false := kO3.free 1
        have lO3 := kO3.lt
        have hsz3 := hw3.size
        simp only [World.size_alloc, World.size_drew] at hsz3
        have hS3 : (fun w' : World => (∀ o, w'.cell? ⟨w.heap.size, o, none⟩ = (#[.int .i64 (n : Int), .slice (some ⟨bb, off, none⟩) rs.length c] : Array Value)[o]?) ∧ w'.cell? ⟨T, 1, none⟩ = some (.slice au L cu) ∧ w'.cell? ⟨bb, off + k * 4, none⟩ = some (.int .i64 (p : Int)) ∧ w'.cell? ⟨bb, off + k * 4 + 1, none⟩ = some (.int .i64 (q : Int)) ∧ w'.cell? ⟨bb, off + k * 4 + 2, none⟩ = some (.int .i64 X) ∧ w'.cell? ⟨bb, off + k * 4 + 3, none⟩ = some (.int .i64 Y)) w3 := ⟨kA3.cell, cO3, cell_by' hb3 g0, cell_by' hb3 g1, cell_by' hb3 g2, cell_by' hb3 g3⟩
        refine hK.out _ _ (fun _ => hS3) ?_
        try simp only [Act.put, List.setIfInBounds_toArray, List.set_cons_zero, List.set_cons_succ]
        refine wpAnyE_one (k := 9) (by kernel_rfl) rfl (fun K hK => ?_)
        go_simp
        refine hK.out _ _ (fun _ => hS3) ?_
        try simp only [Act.put, List.setIfInBounds_toArray, List.set_cons_zero, List.set_cons_succ]
        refine wpAnyE_one (k := 10) (by kernel_rfl) rfl (fun K hK => ?_)
        go_simp
        refine hK.out _ _ (fun h => absurd rfl h) ?_
        refine wpAnyE_done (by kernel_rfl) ?_ _
        clear hS hS3
        go_wp2_with fail
        have hW4 : Within T (T + 1) w3 (w3.setCell ⟨T, 1, none⟩ (.slice a' (L + 1) c')) := Within.off _
        refine ⟨⟨k + 1, w3.heap.size, .slice a' (L + 1) c', by omega, by go_num, Lib.hid ?_, kO3.set 1 _, by omega, kA3.apart _ _ _ (by omega), kR3.apart _ _ _ (by omega), hW4.below hb3w (by omega), hb3.setCell (by simp; omega) _⟩, by simp [intOf]; omega⟩
        rw [HPT.out, HEP.out]
        exact BldRes.past hW4 HBL3.out (by omega)
      · rw [HXA.out, if_neg hm] at HPT
        have hne : (((allL rs p : Nat) : Int) == ((allL rs b : Nat) : Int)) = false := by simp; omega
        generalize allL rs p = Y1 at e1 hne
        generalize allL rs b = Y2 at e2 hne
        clear hm
        go_wp2
        go_quiet (fail)
        go_wp2
        exact ⟨⟨k + 1, hi, .slice au L cu, by omega, by go_num, Lib.hid (by rw [HPT.out]; exact HB.out.by blwT), blkT, hhi, blkT, blkT, below_drewN HBW _, blwT⟩, by simp [intOf]; omega⟩
    · obtain rfl : k = rs.length := by omega
      have i2 : ¬ (rs.length : Int) < (rs.length : Int) := by omega
      have qO := kO.cell
      have qR := kR.cell
      have fR := kR.free
      have lR := kR.lt
      have hPA : partR' rs b rs.length = partR rs b := by unfold partR' partR; rw [List.take_length]
      have HPA := Lib.hid hPA
      clear hPA
      go_wp2
      refine bodyPost_ret (v := .agg #[.int .i64 (n : Int), .slice au L cu]) (by simp [results, Tryz.results71, go_sem, *]) rfl ⟨_, rfl, ⟨_, rfl, ?_⟩, blwT⟩
      have h9 := HB.out.own
      rw [HPA.out] at h9
      have := (OwnRes.past (Within.off (g := w.heap.size + 1) (o := 0) (.int .i64 (n : Int))) h9 (by omega))
      have := (OwnRes.past (Within.off (g := w.heap.size + 1) (o := 1) (.slice au L cu)) this (by omega))
      exact this.wide (by omega) (by simp; omega)
def FBlk (w : World) (g n : Nat) (f : Nat → Int) : Prop := ∃ cs : Array Value, Blk w g cs 2 ∧ cs.size = n ∧ ∀ i, i < n → cs[i]? = some (Value.int .i64 (f i))
section
variable {w w' : World} {g n : Nat} {f : Nat → Int}
theorem FBlk.by (hb : Below w.heap.size w w') (h : FBlk w g n f) : FBlk w' g n f := by obtain ⟨cs, h1, h2⟩ := h; exact ⟨cs, Blk.by hb h1, h2⟩
theorem FBlk.past (h : FBlk w g n f) (o : Obj) : FBlk (w.alloc o) g n f := by obtain ⟨cs, h1, h2⟩ := h; exact ⟨cs, h1.past o, h2⟩
theorem FBlk.drewN (h : FBlk w g n f) (k : Nat) : FBlk (w.drewN k) g n f := by obtain ⟨cs, h1, h2⟩ := h; exact ⟨cs, h1.drewN k, h2⟩
theorem FBlk.lt (h : FBlk w g n f) : g < w.heap.size := by obtain ⟨cs, h1, h2⟩ := h; exact h1.lt
theorem FBlk.free (h : FBlk w g n f) : ∀ o, w.frozen? ⟨g, o, none⟩ = false := by obtain ⟨cs, h1, h2⟩ := h; exact h1.free
theorem FBlk.at (h : FBlk w g n f) {i : Nat} (hi : i < n) : w.cell? ⟨g, i, none⟩ = some (.int .i64 (f i)) := by obtain ⟨cs, h1, h2, h3⟩ := h; rw [h1.cell]; exact h3 i hi
theorem FBlk.set (h : FBlk w g n f) {j : Nat} {y : Int} {f' : Nat → Int} (hj : j < n) (hy : f' j = y) (hf : ∀ i, i ≠ j → f' i = f i) : FBlk (w.setCell ⟨g, j, none⟩ (.int .i64 y)) g n f' := by
  obtain ⟨cs, h1, h2, h3⟩ := h
  refine ⟨_, h1.set j _, by simpa using h2, fun i hi => ?_⟩
  by_cases e : i = j
  · subst e; rw [hy]; simp [Array.getElem?_setIfInBounds, h2, hi]
  · rw [hf i e, ← h3 i hi]
    have e' : ¬ j = i := fun q => e q.symm
    simp [Array.getElem?_setIfInBounds, e']
theorem FBlk.congr (h : FBlk w g n f) {f' : Nat → Int} (hf : ∀ i, i < n → f' i = f i) : FBlk w g n f' := by
  obtain ⟨cs, h1, h2, h3⟩ := h
  exact ⟨cs, h1, h2, fun i hi => by rw [hf i hi]; exact h3 i hi⟩
theorem FBlk.own (h : FBlk w g n f) (hn : n ≤ 1048576) : OwnR w g (g + 1) (.slice (some ⟨g, 0, none⟩) n n) ((List.range n).map f) := by
  obtain ⟨cs, h1, h2, h3⟩ := h
  refine .inr ⟨g, n, cs, by simp, Nat.le_refl _, Nat.lt_succ_self _, by simp, by unfold maxLen; omega, h1, fun i x hx => ?_⟩
  have hi : i < n := by have := (List.getElem?_eq_some_iff.1 hx).1; simpa using this
  rw [h3 i hi]
  simp [hi] at hx
  rw [hx]
end
def PtOk (n : Nat) (rs : List Res) : Prop := NwOk n rs ∧ (netP n rs).Ok ∧ mxF (rnm rs) (rdn rs) rs.length ≤ 10000000000000000
theorem PtOk.sum {n : Nat} {rs : List Res} (h : PtOk n rs) {f : Nat → Int} {k : Nat} (hk : k ≤ 2 ^ rs.length) (hf : ∀ i, 0 ≤ f i ∧ f i ≤ mxF (rnm rs) (rdn rs) rs.length) : 0 ≤ sumF f k ∧ sumF f k ≤ 2560000000000000000 := by
  obtain ⟨⟨_, h8, _⟩, _, hm⟩ := h
  have p := pow_small h8
  refine ⟨sumF_nn (fun i _ => (hf i).1), ?_⟩
  have a := sumF_le (f := f) (B := 10000000000000000) (k := k) (fun i _ => by have := hf i; omega)
  omega
def upZ (f g : Nat → Int) (j : Nat) : Nat → Int := fun v => if v < j then f v else g v
set_option maxRecDepth 100000 in
set_option maxHeartbeats 16000000 in
theorem l26Sums_any (n : Nat) (rs : List Res) (a b : Nat) (v : Value) (w : World) (h : NwV w v ⟨n, rs⟩) (hok : PtOk n rs) (ha : a < n) (hb0 : b < n) :
    Calls Tryz.prog 70 #[v, .int .i64 (a : Int), .int .i64 (b : Int)] w fun e w' => ∃ g, e = .returned (.tuple #[.int .i64 (netP n rs).tot, .slice (some ⟨g, 0, none⟩) n n]) ∧ FBlk w' g n ((netP n rs).top a b) ∧ w.heap.size ≤ g ∧ Below w.heap.size w w' := by
  have hpw := pow_small hok.1.2.1
  have HOK := Lib.hid hok
  have HT := Lib.hid (fun (s : Nat) (hs : s < 256) v w (h : NwV w v ⟨n, rs⟩) => show Calls Tryz.prog 106 #[v, .int .i64 (s : Int)] w fun e w' => ∃ v', e = .returned v' ∧ BldI w' w.heap.size w'.heap.size v' (labL n ((netP n rs).L s)) ∧ Below w.heap.size w w' from l26Trees_any n rs s v w h HOK.out.1 hs)
  have HT0 := Lib.hid (fun (z : Int) (hz : z = ((2 ^ rs.length - 1 : Nat) : Int)) v w (h : NwV w v ⟨n, rs⟩) => show Calls Tryz.prog 106 #[v, .int .i64 z] w fun e w' => ∃ v', e = .returned v' ∧ BldI w' w.heap.size w'.heap.size v' (labL n (netP n rs).all) ∧ Below w.heap.size w w' from by have q := l26Trees_any n rs (2 ^ rs.length - 1) v w h HOK.out.1 (by omega); rw [sel_all, ← hz] at q; exact q)
  have HWT := Lib.hid (fun (s : Nat) (hs : s < 256) v w (h : NwV w v ⟨n, rs⟩) => show Calls Tryz.prog 108 #[v, .int .i64 (s : Int)] w fun e w' => e = .returned (.tuple #[.int .i64 ((netP n rs).wt s), .int .i64 ((netP n rs).cnt s : Nat)]) ∧ Below w.heap.size w w' from l26Weight_any n rs s v w h HOK.out.1.2.1 hs HOK.out.2.1.pos HOK.out.2.2)
  have HRT := Lib.hid (fun (s : Nat) v w (h : IntSl w v (labL n ((netP n rs).L s))) => show Calls Tryz.prog 107 #[v] w fun e w' => e = .returned (.int .i64 ((netP n rs).roots s : Nat)) ∧ w = w' from l26Roots_any n ((netP n rs).L s) v w h HOK.out.1.1 (fun i hi => Nat.lt_of_le_of_lt (selF_le _ _ _ _) hi))
  have HR0 := Lib.hid (fun v w (h : IntSl w v (labL n (netP n rs).all)) => show Calls Tryz.prog 107 #[v] w fun e w' => e = .returned (.int .i64 ((netP n rs).least : Nat)) ∧ w = w' from l26Roots_any n (netP n rs).all v w h HOK.out.1.1 (fun i hi => Nat.lt_of_le_of_lt (selF_le _ _ _ _) hi))
  have hWB : ∀ s, 1 ≤ (netP n rs).wt s ∧ (netP n rs).wt s ≤ 10000000000000000 := fun s => by
    have q := Pn.wt_bd hok.2.1 s
    have := hok.2.2
    exact ⟨q.1, Int.le_trans q.2 this⟩
  have hTB : ∀ k, k ≤ 2 ^ rs.length → 0 ≤ sumF (netP n rs).tF k ∧ sumF (netP n rs).tF k ≤ 2560000000000000000 := fun k hk => hok.sum hk (fun s => Pn.tF_bd hok.2.1 s)
  have hGB : ∀ u k, k ≤ 2 ^ rs.length → 0 ≤ sumF ((netP n rs).gF a b u) k ∧ sumF ((netP n rs).gF a b u) k ≤ 2560000000000000000 := fun u k hk => hok.sum hk (fun s => Pn.gF_bd hok.2.1 a b u s)
  have hRL : ∀ s, (netP n rs).roots s ≤ n := fun s => rootsF_le _ _
  have hCL : ∀ s, (netP n rs).cnt s ≤ 8 := fun s => Nat.le_trans (cntF_le _ _) hok.1.2.1
  have hLL : (netP n rs).least ≤ n := rootsF_le _ _
  have HWB := Lib.hid hWB
  have HTB := Lib.hid hTB
  have HGB := Lib.hid hGB
  have HRL := Lib.hid hRL
  have HCL := Lib.hid hCL
  have HTT := Lib.hid (show (netP n rs).tot = sumF (netP n rs).tF (2 ^ rs.length) from rfl)
  have HTP := Lib.hid (fun u => show (netP n rs).top a b u = sumF ((netP n rs).gF a b u) (2 ^ rs.length) from rfl)
  have HTR := Lib.hid (fun s => show (netP n rs).treeB s = true ↔ (netP n rs).roots s + (netP n rs).cnt s = n ∧ (netP n rs).roots s = (netP n rs).least from by unfold Pn.treeB; rw [Bool.and_eq_true, decide_eq_true_eq, decide_eq_true_eq]; exact Iff.rfl)
  have HTW := Lib.hid (fun u s => show (netP n rs).twoB a b u s = true ↔ ((netP n rs).roots s + (netP n rs).cnt s = n ∧ (netP n rs).roots s = (netP n rs).least + 1) ∧ ((netP n rs).L s a ≠ (netP n rs).L s b ∧ (netP n rs).L s u = (netP n rs).L s a) from by unfold Pn.twoB; rw [Bool.and_eq_true, Bool.and_eq_true, Bool.and_eq_true, decide_eq_true_eq, decide_eq_true_eq, Bool.not_eq_true', beq_eq_false_iff_ne, beq_iff_eq, and_assoc]; exact Iff.rfl)
  obtain ⟨⟨hn6, hr8, _⟩, _⟩ := hok
  generalize netP n rs = P at *
  have hF1 := full_pow rs.length (by omega)
  obtain ⟨K, hK⟩ : ∃ K : Nat, 2 ^ rs.length = K := ⟨_, rfl⟩
  rw [hK] at hpw hF1 HTT HTB HGB HT0
  have HTP' := Lib.hid (fun u => (HTP.out u).trans (by rw [hK]))
  have HKK := Lib.hid hK
  have hKw : wrap64 ((K : Int) - 1) = (K : Int) - 1 := by simp [wrap64, IntKind.wrap, IntKind.bits, IntKind.signed]; omega
  have HV := Lib.hid h
  obtain ⟨a0, c0, rfl⟩ := h.sized
  clear h hWB hTB hGB hRL hCL hK
  obtain ⟨cs0, hcs0, hcz, hmk⟩ := make_ints n (by omega) (w.alloc (.cells #[.int .i64 (n : Int), .slice a0 rs.length c0] 55))
  go_enter Tryz.func70, Tryz.ntmps70
  go_wp2_with fail
  have kA : Blk ((w.alloc (.cells #[.int .i64 (n : Int), .slice a0 rs.length c0] 55)).alloc (.cells cs0 2)) w.heap.size #[.int .i64 (n : Int), .slice a0 rs.length c0] 55 := blkT
  have hF0 : FBlk ((w.alloc (.cells #[.int .i64 (n : Int), .slice a0 rs.length c0] 55)).alloc (.cells cs0 2)) (w.heap.size + 1) n (fun u => sumF (P.gF a b u) 0) := ⟨cs0, Blk.new _ (by simp), hcs0, hcz⟩
  have hW : Below w.heap.size w ((w.alloc (.cells #[.int .i64 (n : Int), .slice a0 rs.length c0] 55)).alloc (.cells cs0 2)) := blwT
  have HF0 := Lib.hid hF0
  clear hmk hcz hF0
  refine (HT0.out _ (by omega) _ _ (HV.out.by hW)).mono ?_
  rintro e w1 ⟨v1, rfl, hB1, hb1⟩
  have HI1 := Lib.hid hB1.own.sl
  obtain ⟨a1, c1, rfl⟩ := hB1.sized
  rw [length_labL] at HI1 ⊢
  replace kA := Blk.by hb1 kA
  replace HF0 := Lib.hid (HF0.out.by hb1)
  replace hW := below_on hb1 hW
  clear hB1 hb1
  have qA := kA.cell
  have lA := kA.lt
  go_wp2_with fail
  refine (HR0.out _ _ HI1.out).mono ?_
  rintro e w1' ⟨rfl, rfl⟩
  clear HI1 HR0 HT0
  go_wp2
  obtain ⟨Z, hZ⟩ : ∃ Z, P.least = Z := ⟨_, rfl⟩
  rw [hZ] at hLL HTR HTW ⊢
  go_loopw [8, 11] (fun u i wr => ∃ (s : Nat), s ≤ K ∧ i = .int .i64 (s : Int) ∧ u = .int .i64 (sumF P.tF s) ∧ Hid (FBlk wr (w.heap.size + 1) n (fun x => sumF (P.gF a b x) s)) ∧ Blk wr w.heap.size #[.int .i64 (n : Int), .slice a0 rs.length c0] 55 ∧ Below w.heap.size w wr) (fun _ i _ => K - (intOf i).toNat)
  case atStart => exact ⟨0, Nat.zero_le _, rfl, rfl, HF0, kA, hW⟩
  case round =>
    clear kA HF0 hW qA lA
    obtain ⟨s, hs, rfl, rfl, HF, kA, hb⟩ := hrel
    have qA := kA.cell
    have lA := kA.lt
    by_cases hlt : s < K
    · have hsum := HTB.out (s + 1) (by omega)
      have hsum0 := HTB.out s (by omega)
      obtain ⟨S0, hS0⟩ : ∃ S0, sumF P.tF s = S0 := ⟨_, rfl⟩
      have hsn : sumF P.tF (s + 1) = S0 + P.tF s := by rw [← hS0]; rfl
      rw [hS0] at hsum0 ⊢
      rw [hsn] at hsum
      have HSN := Lib.hid hsn
      have hFl0 := HF.out.lt
      have i1 : (s : Int) < (K : Int) := by omega
      clear hsn hS0
      have HNV : Hid (NwV wr (.agg #[.int .i64 (n : Int), .slice a0 rs.length c0]) ⟨n, rs⟩) := Lib.hid (HV.out.by hb)
      go_wp2_with fail
      refine (HT.out s (by omega) _ _ HNV.out).mono ?_
      rintro e w2 ⟨v2, rfl, hB2, hb2⟩
      obtain ⟨G, cap2, cs2, hv2, hG2, hBk2, hcell2⟩ := hB2.blk (by rw [length_labL]; omega)
      rw [length_labL] at hv2
      subst hv2
      have HI2 := Lib.hid hB2.own.sl
      replace kA := Blk.by hb2 kA
      replace HF := Lib.hid (HF.out.by hb2)
      replace HNV := Lib.hid (HNV.out.by hb2)
      replace hb := below_on hb2 hb
      have HC2 := Lib.hid (fun i (hi : i < n) => show cs2[i]? = some (.int .i64 ((P.L s i : Nat) : Int)) from by rw [← hBk2.cell]; exact hcell2 i _ (labL_get _ hi))
      have hFl := HF.out.lt
      have hGF : w.heap.size + 1 < G := by have := hb2.size; omega
      clear hB2 hb2 hcell2 hG2 qA lA
      have qA := kA.cell
      have lA := kA.lt
      go_wp2_with fail
      refine (HWT.out s (by omega) _ _ HNV.out).mono ?_
      rintro e w3 ⟨rfl, hb3⟩
      replace kA := Blk.by hb3 kA
      replace HF := Lib.hid (HF.out.by hb3)
      replace hBk2 := Blk.by hb3 hBk2
      replace HI2 := Lib.hid (HI2.out.by hb3)
      replace hb := below_on hb3 hb
      clear hb3 qA lA HNV
      have qA := kA.cell
      have lA := kA.lt
      go_wp2_with fail
      refine (HRT.out s _ _ HI2.out).mono ?_
      rintro e w3' ⟨rfl, rfl⟩
      clear HI2
      obtain ⟨hw1, hw2⟩ := HWB.out s
      have hrl := HRL.out s
      have hcl := HCL.out s
      have HTRs := Lib.hid (HTR.out s)
      have HTWs := Lib.hid (fun u => HTW.out u s)
      obtain ⟨W, hWe⟩ : ∃ W, P.wt s = W := ⟨_, rfl⟩
      have HTY := Lib.hid (fun h => show P.tF s = W from by rw [← hWe]; exact tF_yes h)
      have HGY := Lib.hid (fun u h => show P.gF a b u s = W from by rw [← hWe]; exact gF_yes h)
      obtain ⟨R, hR⟩ : ∃ R, P.roots s = R := ⟨_, rfl⟩
      obtain ⟨C, hC⟩ : ∃ C, P.cnt s = C := ⟨_, rfl⟩
      obtain ⟨ya, hya⟩ : ∃ y, P.L s a = y := ⟨_, rfl⟩
      obtain ⟨yb, hyb⟩ : ∃ y, P.L s b = y := ⟨_, rfl⟩
      rw [hR, hC] at HTRs HTWs
      rw [hya, hyb] at HTWs
      rw [hWe] at hw1 hw2 ⊢
      rw [hR] at hrl ⊢
      rw [hC] at hcl ⊢
      have cya : cs2[a]? = some (.int .i64 (ya : Int)) := by have := HC2.out a ha; rw [hya] at this; exact this
      have cyb : cs2[b]? = some (.int .i64 (yb : Int)) := by have := HC2.out b hb0; rw [hyb] at this; exact this
      have la : w3.cell? ⟨G, a, none⟩ = some (.int .i64 (ya : Int)) := by rw [hBk2.cell]; exact cya
      have lb : w3.cell? ⟨G, b, none⟩ = some (.int .i64 (yb : Int)) := by rw [hBk2.cell]; exact cyb
      have HGZ := Lib.hid (fun u => show sumF (P.gF a b u) (s + 1) = sumF (P.gF a b u) s + P.gF a b u s from rfl)
      have HGN := Lib.hid (fun u (h : ¬ P.twoB a b u s = true) => show P.gF a b u s = 0 from gF_no h)
      have HTN := Lib.hid (fun (h : ¬ P.treeB s = true) => show P.tF s = 0 from tF_no h)
      have j1 : (0 : Int) ≤ (a : Int) := by omega
      have j2 : (a : Int) < (n : Int) := by omega
      have j3 : (0 : Int) ≤ (b : Int) := by omega
      have j4 : (b : Int) < (n : Int) := by omega
      have k0 : (0 : Int) < (n : Int) := by omega
      have k00 : decide (0 < n) = true := decide_eq_true (by omega)
      have CYA := Lib.hid cya
      have CYB := Lib.hid cyb
      clear hWe hR hC hya hyb cya cyb
      by_cases hc : R + C = n
      · have hcb : ((C : Int) != (n : Int) - (R : Int)) = false := by simp; omega
        have hwz : IntKind.i64.wrap ((Z : Int) + 1) = (Z : Int) + 1 := by simp [IntKind.wrap, IntKind.bits, IntKind.signed]; omega
        by_cases hz : R = Z
        · have hzb : ((R : Int) == (Z : Int)) = true := by simp; omega
          have hzc : ((R : Int) == (Z : Int) + 1) = false := by simp; omega
          have et := HTY.out (HTRs.out.2 ⟨hc, hz⟩)
          have HET := Lib.hid et
          rw [et] at hsum
          have HFN := Lib.hid (show FBlk w3 (w.heap.size + 1) n (fun x => sumF (P.gF a b x) (s + 1)) from HF.out.congr (fun u _ => by
            show sumF (P.gF a b u) (s + 1) = sumF (P.gF a b u) s
            rw [HGZ.out, HGN.out u (fun q => by have := ((HTWs.out u).1 q).1; omega), Int.add_zero]))
          clear hc hz et
          go_wp2
          go_loopw [16] (fun i wr2 => i = .int .i64 0 ∧ wr2 = w3) (fun _ _ => 0)
          case atStart => exact ⟨rfl, rfl⟩
          case round =>
            obtain ⟨rfl, rfl⟩ := hrel
            go_wp2
            go_quiet (fail)
            go_wp2
            exact ⟨⟨s + 1, by omega, by go_num, by rw [HSN.out, HET.out], Lib.hid (HFN.out.by blwT), blkT, blwT⟩, by simp [intOf]; omega⟩
        · have hzb : ((R : Int) == (Z : Int)) = false := by simp; omega
          have et := HTN.out (fun q => hz (HTRs.out.1 q).2)
          have HET := Lib.hid et
          clear hsum
          by_cases hz1 : R = Z + 1
          · have hzc : ((R : Int) == (Z : Int) + 1) = true := by simp; omega
            by_cases hab : ya = yb
            · have hne : ((ya : Int) != (yb : Int)) = false := by simp; omega
              have HFN := Lib.hid (show FBlk w3 (w.heap.size + 1) n (fun x => sumF (P.gF a b x) (s + 1)) from HF.out.congr (fun u _ => by
                show sumF (P.gF a b u) (s + 1) = sumF (P.gF a b u) s
                rw [HGZ.out, HGN.out u (fun q => ((HTWs.out u).1 q).2.1 hab), Int.add_zero]))
              clear hc hz et hz1 hab
              go_wp2
              go_loopw [16] (fun i wr2 => i = .int .i64 0 ∧ wr2 = w3) (fun _ _ => 0)
              case atStart => exact ⟨rfl, rfl⟩
              case round =>
                obtain ⟨rfl, rfl⟩ := hrel
                go_wp2
                go_quiet (fail)
                go_wp2
                exact ⟨⟨s + 1, by omega, by go_num, by rw [HSN.out, HET.out]; go_num, Lib.hid (HFN.out.by blwT), blkT, blwT⟩, by simp [intOf]; omega⟩
            · have hne : ((ya : Int) != (yb : Int)) = true := by simp; omega
              have HAB := Lib.hid hab
              have HCC := Lib.hid (show R + C = n ∧ R = Z + 1 from ⟨hc, hz1⟩)
              clear hc hz et hz1 hab la lb
              go_wp2
              go_loopw [16] (fun i wr2 => ∃ (u : Nat), u ≤ n ∧ i = .int .i64 (u : Int) ∧ Hid (FBlk wr2 (w.heap.size + 1) n (upZ (fun x => sumF (P.gF a b x) (s + 1)) (fun x => sumF (P.gF a b x) s) u)) ∧ Blk wr2 G cs2 2 ∧ Blk wr2 w.heap.size #[.int .i64 (n : Int), .slice a0 rs.length c0] 55 ∧ Below w.heap.size w wr2) (fun i _ => n - (intOf i).toNat)
              case atStart => exact ⟨0, Nat.zero_le _, rfl, Lib.hid (HF.out.congr (fun u _ => by unfold upZ; rw [if_neg (by omega)])), hBk2, kA, hb⟩
              case round =>
                clear HF hBk2 kA hb qA lA
                obtain ⟨u, hu, rfl, HF, hBk, kA, hb⟩ := hrel
                have qA := kA.cell
                have lA := kA.lt
                have la : wr.cell? ⟨G, a, none⟩ = some (.int .i64 (ya : Int)) := by rw [hBk.cell]; exact CYA.out
                have lb : wr.cell? ⟨G, b, none⟩ = some (.int .i64 (yb : Int)) := by rw [hBk.cell]; exact CYB.out
                by_cases hlt2 : u < n
                · have k1 : decide (u < n) = true := decide_eq_true hlt2
                  have k2 : (u : Int) < (n : Int) := by omega
                  have k3 : (0 : Int) ≤ (u : Int) := by omega
                  obtain ⟨yu, hyu⟩ : ∃ y, P.L s u = y := ⟨_, rfl⟩
                  have lu : wr.cell? ⟨G, u, none⟩ = some (.int .i64 (yu : Int)) := by rw [hBk.cell]; have := HC2.out u hlt2; rw [hyu] at this; exact this
                  have cF := HF.out.at hlt2
                  have fF := HF.out.free
                  have lF := HF.out.lt
                  have eU : upZ (fun x => sumF (P.gF a b x) (s + 1)) (fun x => sumF (P.gF a b x) s) u u = sumF (P.gF a b u) s := by unfold upZ; rw [if_neg (by omega)]
                  rw [eU] at cF
                  have hg1 := HGB.out u (s + 1) (by omega)
                  have hg0 := HGB.out u s (by omega)
                  rw [HGZ.out] at hg1
                  obtain ⟨S1, hS1⟩ : ∃ S1, sumF (P.gF a b u) s = S1 := ⟨_, rfl⟩
                  rw [hS1] at cF hg1 hg0
                  have HS1 := Lib.hid hS1
                  have HYU := Lib.hid hyu
                  clear hyu eU hS1
                  by_cases hya : yu = ya
                  · have hyab : ((yu : Int) == (ya : Int)) = true := by simp; omega
                    have eg := HGY.out u ((HTWs.out u).2 ⟨HCC.out, HAB.out, by rw [HYU.out]; exact hya⟩)
                    rw [eg] at hg1
                    have HEG := Lib.hid eg
                    have hws : IntKind.i64.wrap (S1 + W) = S1 + W := by simp [IntKind.wrap, IntKind.bits, IntKind.signed]; omega
                    have HST := Lib.hid (show FBlk (wr.setCell ⟨w.heap.size + 1, u, none⟩ (.int .i64 (S1 + W))) (w.heap.size + 1) n (upZ (fun x => sumF (P.gF a b x) (s + 1)) (fun x => sumF (P.gF a b x) s) (u + 1)) from HF.out.set hlt2 (by unfold upZ; rw [if_pos (by omega)]; show sumF (P.gF a b u) (s + 1) = _; rw [HGZ.out, HS1.out, HEG.out]) (fun i hi => by
                      unfold upZ
                      by_cases l : i < u
                      · rw [if_pos (by omega), if_pos l]
                      · rw [if_neg (by omega), if_neg l]))
                    have HST2 := Lib.hid (fun k => show FBlk ((wr.drewN k).setCell ⟨w.heap.size + 1, u, none⟩ (.int .i64 (S1 + W))) (w.heap.size + 1) n (upZ (fun x => sumF (P.gF a b x) (s + 1)) (fun x => sumF (P.gF a b x) s) (u + 1)) from HST.out)
                    clear hya eg
                    go_wp2
                    go_quiet (fail)
                    go_wp2
                    go_quiet (fail)
                    go_wp2
                    exact ⟨⟨u + 1, by omega, by go_num, Lib.hid (HST2.out _), Blk.apart (hBk.drewN _) _ _ _ (by omega), Blk.apart (kA.drewN _) _ _ _ (by omega), (below_drewN hb _).setCell (by simp) _⟩, by simp [intOf]; omega⟩
                  · have hyab : ((yu : Int) == (ya : Int)) = false := by simp; omega
                    have eg := HGN.out u (fun q => by have := ((HTWs.out u).1 q).2.2; rw [HYU.out] at this; exact hya this)
                    have HEG := Lib.hid eg
                    have HST := Lib.hid (show FBlk wr (w.heap.size + 1) n (upZ (fun x => sumF (P.gF a b x) (s + 1)) (fun x => sumF (P.gF a b x) s) (u + 1)) from HF.out.congr (fun i hi => by
                      unfold upZ
                      by_cases l : i < u
                      · rw [if_pos (by omega), if_pos l]
                      · by_cases e : i = u
                        · subst e; rw [if_pos (by omega), if_neg (by omega)]; show sumF (P.gF a b i) (s + 1) = _; rw [HGZ.out, HEG.out, Int.add_zero]
                        · rw [if_neg (by omega), if_neg l]))
                    clear hya eg
                    go_wp2
                    go_quiet (fail)
                    go_wp2
                    go_quiet (fail)
                    go_wp2
                    exact ⟨⟨u + 1, by omega, by go_num, Lib.hid (HST.out.drewN _), hBk.drewN _, kA.drewN _, below_drewN hb _⟩, by simp [intOf]; omega⟩
                · obtain rfl : u = n := by omega
                  have k1 : decide (u < u) = false := by simp
                  have k2 : ¬ (u : Int) < (u : Int) := by omega
                  have HFN := Lib.hid (show FBlk wr (w.heap.size + 1) u (fun x => sumF (P.gF a b x) (s + 1)) from HF.out.congr (fun i hi => by unfold upZ; rw [if_pos hi]))
                  go_wp2
                  go_quiet (fail)
                  go_wp2
                  exact ⟨⟨s + 1, by omega, by go_num, by rw [HSN.out, HET.out]; go_num, Lib.hid (HFN.out.by blwT), blkT, blwT⟩, by simp [intOf]; omega⟩
          · have hzc : ((R : Int) == (Z : Int) + 1) = false := by simp; omega
            have HFN := Lib.hid (show FBlk w3 (w.heap.size + 1) n (fun x => sumF (P.gF a b x) (s + 1)) from HF.out.congr (fun u _ => by
              show sumF (P.gF a b u) (s + 1) = sumF (P.gF a b u) s
              rw [HGZ.out, HGN.out u (fun q => by have := ((HTWs.out u).1 q).1; omega), Int.add_zero]))
            clear hc hz et hz1
            go_wp2
            go_loopw [16] (fun i wr2 => i = .int .i64 0 ∧ wr2 = w3) (fun _ _ => 0)
            case atStart => exact ⟨rfl, rfl⟩
            case round =>
              obtain ⟨rfl, rfl⟩ := hrel
              go_wp2
              go_quiet (fail)
              go_wp2
              exact ⟨⟨s + 1, by omega, by go_num, by rw [HSN.out, HET.out]; go_num, Lib.hid (HFN.out.by blwT), blkT, blwT⟩, by simp [intOf]; omega⟩
      · have hcb : ((C : Int) != (n : Int) - (R : Int)) = true := by simp; omega
        have et := HTN.out (fun q => hc (HTRs.out.1 q).1)
        have HET := Lib.hid et
        have HFN := Lib.hid (show FBlk w3 (w.heap.size + 1) n (fun x => sumF (P.gF a b x) (s + 1)) from HF.out.congr (fun u _ => by
          show sumF (P.gF a b u) (s + 1) = sumF (P.gF a b u) s
          rw [HGZ.out, HGN.out u (fun q => hc ((HTWs.out u).1 q).1.1), Int.add_zero]))
        clear hc et hsum
        go_wp2
        exact ⟨⟨s + 1, by omega, by go_num, by rw [HSN.out, HET.out]; go_num, Lib.hid (HFN.out.by blwT), blkT, blwT⟩, by simp [intOf]; omega⟩
    · obtain rfl : s = K := by omega
      have i1 : ¬ (s : Int) < (s : Int) := by omega
      have HTE := Lib.hid (show sumF P.tF s = P.tot from by rw [HTT.out])
      have HFE := Lib.hid (show FBlk wr (w.heap.size + 1) n (P.top a b) from HF.out.congr (fun u _ => by rw [HTP'.out u]))
      go_wp2
      exact bodyPost_ret (v := .tuple #[.int .i64 (sumF P.tF s), .slice (some ⟨w.heap.size + 1, 0, none⟩) n n]) (by simp [results, Tryz.results70, go_sem]) rfl ⟨_, by rw [HTE.out], HFE.out, by omega, hb⟩
theorem red_exact (n : Int) {d : Int} (h : 0 < d) : redN n d * (Int.gcd n d : Nat) = n ∧ redD n d * (Int.gcd n d : Nat) = d ∧ (0 : Int) < (Int.gcd n d : Nat) := by
  rw [redN_ge n (by omega), redD_ge n (by omega)]
  have g1 := gcd_pos_of n d (by omega)
  exact ⟨Int.tdiv_mul_cancel (Int.gcd_dvd_left n d), Int.tdiv_mul_cancel (Int.gcd_dvd_right n d), by omega⟩
theorem red_mul (n : Int) {d g : Int} (h : 0 < d) (hg : 0 < g) : redN (n * g) (d * g) = redN n d ∧ redD (n * g) (d * g) = redD n d := by
  have hdg : 0 < d * g := Int.mul_pos h hg
  have e : Int.gcd (n * g) (d * g) = Int.gcd n d * g.natAbs := by rw [Int.gcd_mul_right]
  have e' : ((Int.gcd (n * g) (d * g) : Nat) : Int) = (Int.gcd n d : Nat) * g := by rw [e, Int.natCast_mul, Int.natAbs_of_nonneg (by omega)]
  obtain ⟨h1, h2, h3⟩ := red_exact n h
  obtain ⟨k1, k2, k3⟩ := red_exact (n * g) hdg
  rw [e'] at k1 k2 k3
  have hne : ((Int.gcd n d : Nat) : Int) * g ≠ 0 := by omega
  refine ⟨Int.eq_of_mul_eq_mul_right hne ?_, Int.eq_of_mul_eq_mul_right hne ?_⟩
  · rw [k1, ← Int.mul_assoc, h1]
  · rw [k2, ← Int.mul_assoc, h2]
theorem red_eq {N1 D1 N2 D2 : Int} (h1 : 0 < D1) (h2 : 0 < D2) (h : N1 * D2 = N2 * D1) : redN N1 D1 = redN N2 D2 ∧ redD N1 D1 = redD N2 D2 := by
  have a := red_mul N1 h1 h2
  have b := red_mul N2 h2 h1
  rw [h, Int.mul_comm D1 D2] at a
  exact ⟨a.1.symm.trans b.1, a.2.symm.trans b.2⟩
def nkC (x : Nw) (a b : Int) : Int := if nwB x.nodes x.rs = true then (if inB a 0 (x.nodes - 1) = true ∧ inB b 0 (x.nodes - 1) = true then (if allL x.rs a.toNat = allL x.rs b.toNat then 0 else 5) else 2) else 1
def nkP (x : Nw) (a : Int) : Pn := parP x.nodes.toNat x.rs a.toNat
def nkT (x : Nw) (a b v : Int) : Int := (nkP x a).top a.toNat b.toNat v.toNat
def rtOf (n d : Int) : Rt := ⟨redN n d, redD n d⟩
def potS (x : Nw) (a b : Int) : List Rt := if nkC x a b = 0 then (List.range x.nodes.toNat).map fun (v : Nat) => rtOf (nkT x a b v) (nkP x a).tot else []
def erS (x : Nw) (a b : Int) : Rt := if nkC x a b = 0 then rtOf (nkT x a b a) (nkP x a).tot else ⟨0, 0⟩
theorem nkC_1 {x : Nw} {a b : Int} (h : nwB x.nodes x.rs = false) : nkC x a b = 1 := by unfold nkC; rw [h]; simp
theorem nkC_2 {x : Nw} {a b : Int} (h : nwB x.nodes x.rs = true) (h2 : ¬ (inB a 0 (x.nodes - 1) = true ∧ inB b 0 (x.nodes - 1) = true)) : nkC x a b = 2 := by unfold nkC; rw [if_pos h, if_neg h2]
theorem nkC_5 {x : Nw} {a b : Int} (h : nwB x.nodes x.rs = true) (h1 : inB a 0 (x.nodes - 1) = true) (h2 : inB b 0 (x.nodes - 1) = true) (h3 : allL x.rs a.toNat ≠ allL x.rs b.toNat) : nkC x a b = 5 := by unfold nkC; rw [if_pos h, if_pos ⟨h1, h2⟩, if_neg h3]
theorem nkC_0 {x : Nw} {a b : Int} (h : nwB x.nodes x.rs = true) (h1 : inB a 0 (x.nodes - 1) = true) (h2 : inB b 0 (x.nodes - 1) = true) (h3 : allL x.rs a.toNat = allL x.rs b.toNat) : nkC x a b = 0 := by unfold nkC; rw [if_pos h, if_pos ⟨h1, h2⟩, if_pos h3]
theorem nk_yes {x : Nw} {a b : Int} (h : nkC x a b = 0) : nwB x.nodes x.rs = true ∧ (0 ≤ a ∧ a < x.nodes) ∧ (0 ≤ b ∧ b < x.nodes) ∧ allL x.rs a.toNat = allL x.rs b.toNat := by
  unfold nkC at h
  split at h
  · rename_i h1
    split at h
    · rename_i h2
      split at h
      · rename_i h3
        have a1 := inB_iff.1 h2.1
        have a2 := inB_iff.1 h2.2
        exact ⟨h1, by omega, by omega, h3⟩
      · omega
    · omega
  · omega
def nkX {x : Nw} {a b : Int} (h : nkC x a b = 0) : NetAB :=
  ⟨x.nodes.toNat, x.rs, a.toNat, b.toNat, by
    obtain ⟨h1, h2, _⟩ := nk_yes h
    rw [Int.toNat_of_nonneg (by omega)]; exact h1, by have := (nk_yes h).2.1; omega, by have := (nk_yes h).2.2.1; omega, (nk_yes h).2.2.2⟩
theorem nk_T {x : Nw} {a b : Int} (h : nkC x a b = 0) (v : Int) : nkT x a b v = (nkX h).S v := rfl
theorem nk_P {x : Nw} {a b : Int} (h : nkC x a b = 0) : (nkP x a).tot = (nkX h).T := rfl
theorem nw_ok {x : Nw} (h : nwB x.nodes x.rs = true) {n : Nat} (hn : x.nodes = n) : NwOk n x.rs := by
  obtain ⟨h1, h2, h3, _⟩ := nw_facts h
  exact ⟨by omega, h2, fun r hr => by have q := h3 r hr; exact ⟨by omega, by omega⟩⟩
theorem part_ok {x : Nw} (h : nwB x.nodes x.rs = true) {n : Nat} (hn : x.nodes = n) (a : Nat) : PtOk n (partR x.rs a) := by
  obtain ⟨h1, h2, h3⟩ := nw_ok h hn
  exact ⟨⟨h1, Nat.le_trans (part_len _ _) h2, fun r hr => h3 r (mem_part.1 hr).1⟩, par_ok h hn a, par_mx n h a⟩
theorem potS_bd (x : Nw) (a b : Int) : (potS x a b).length ≤ 8 := by
  unfold potS
  split
  · rename_i h
    obtain ⟨h1, _⟩ := nk_yes h
    obtain ⟨⟨_, h2⟩, _⟩ := nw_facts h1
    simp; omega
  · simp
theorem countP_range (f : Nat → Bool) (k : Nat) : (List.range (k + 1)).countP f = (List.range k).countP f + if f k = true then 1 else 0 := by
  rw [List.range_succ, List.countP_append, List.countP_singleton]
def usR (ds : List Dv) (p q net : Int) : Bool := decide (net = p) || (decide (net = q) || decide (0 < degN ds net))
def cnR (ds : List Dv) (p q : Int) (k : Nat) : Nat := (List.range k).countP fun (i : Nat) => usR ds p q (i : Int)
theorem cnR_yes {ds : List Dv} {p q : Int} {k : Nat} (h : usR ds p q (k : Int) = true) : cnR ds p q (k + 1) = cnR ds p q k + 1 := by
  unfold cnR; rw [countP_range, if_pos h]
theorem cnR_no {ds : List Dv} {p q : Int} {k : Nat} (h : usR ds p q (k : Int) = false) : cnR ds p q (k + 1) = cnR ds p q k := by
  unfold cnR; rw [countP_range, if_neg (by rw [h]; simp)]; rfl
theorem cnR_le (ds : List Dv) (p q : Int) (k : Nat) : cnR ds p q k ≤ k := by
  unfold cnR
  exact Nat.le_trans List.countP_le_length (by simp)
def ndR (ds : List Dv) (p q : Int) (k : Nat) : List Int := (List.range k).map fun (i : Nat) => ((cnR ds p q i : Nat) : Int)
theorem ndR_succ (ds : List Dv) (p q : Int) (k : Nat) : ndR ds p q (k + 1) = ndR ds p q k ++ [((cnR ds p q k : Nat) : Int)] := by
  unfold ndR; rw [List.range_succ, List.map_append]; rfl
theorem length_ndR (ds : List Dv) (p q : Int) (k : Nat) : (ndR ds p q k).length = k := by simp [ndR]
theorem ndR_get (ds : List Dv) (p q : Int) {k i : Nat} (h : i < k) : (ndR ds p q k)[i]? = some ((cnR ds p q i : Nat) : Int) := by simp [ndR, h]
def resR (ds : List Dv) (p q : Int) (d : Dv) : Res := ⟨((cnR ds p q (d.pins.getD 0 0).toNat : Nat) : Int), ((cnR ds p q (d.pins.getD 1 0).toNat : Nat) : Int), d.wd, d.len⟩
def netR (ds : List Dv) (p q : Int) (nets : Nat) : Nw := ⟨((cnR ds p q nets : Nat) : Int), ds.map (resR ds p q)⟩
-- the program's own way
def pinsL (ds : List Dv) : List Int := ds.flatMap Dv.pins
theorem mem_pinsL {ds : List Dv} {z : Int} : z ∈ pinsL ds ↔ 0 < degN ds z := by
  induction ds with
  | nil => simp [pinsL, degN]
  | cons d ds ih =>
    have e : pinsL (d :: ds) = d.pins ++ pinsL ds := rfl
    have e2 : degN (d :: ds) z = d.pins.count z + degN ds z := rfl
    rw [e, e2, List.mem_append, ih, ← List.count_pos_iff]
    omega
theorem length_pinsL {ds : List Dv} (h : ∀ d ∈ ds, d.pins.length ≤ 3) : (pinsL ds).length ≤ 3 * ds.length := by
  induction ds with
  | nil => simp [pinsL]
  | cons d ds ih =>
    have e : pinsL (d :: ds) = d.pins ++ pinsL ds := rfl
    have h1 := ih (fun d hd => h d (List.mem_cons_of_mem _ hd))
    have h2 := h d List.mem_cons_self
    rw [e, List.length_append, List.length_cons]; omega
theorem ddpA_lt (p : Int) (l : List Int) (h : (p :: l).Pairwise (fun a b => decide (a ≤ b) = true)) : (p :: ddpA p l).Pairwise (fun a b => a < b) := by
  induction l generalizing p with
  | nil => simp [ddpA]
  | cons b l ih =>
    rw [List.pairwise_cons] at h
    have hb := ih b h.2
    unfold ddpA
    by_cases e : b = p
    · subst e; rw [if_pos rfl]; exact hb
    · rw [if_neg e, List.pairwise_cons]
      have h1 : p ≤ b := of_decide_eq_true (h.1 b (by simp))
      refine ⟨fun z hz => ?_, hb⟩
      rcases List.mem_cons.1 hz with rfl | hz
      · omega
      · have := (List.pairwise_cons.1 hb).1 z hz; omega
theorem ddp_lt {l : List Int} (h : l.Pairwise (fun a b => decide (a ≤ b) = true)) : (ddp l).Pairwise (fun a b => a < b) := by
  cases l with
  | nil => exact List.Pairwise.nil
  | cons a l => exact ddpA_lt a l h
theorem fidx_cons_no {α : Type} {f : α → Bool} {a : α} {l : List α} (h : f a = false) (h' : 0 ≤ fidx f l) : fidx f (a :: l) = fidx f l + 1 := by
  unfold fidx at h' ⊢
  rw [List.findIdx?_cons, h]
  cases e : l.findIdx? f with
  | none => rw [e] at h'; simp at h'
  | some k => simp
theorem fidx_lt_count : ∀ (D : List Int) (x : Int), D.Pairwise (fun a b => a < b) → x ∈ D → fidx (fun y => decide (y = x)) D = ((D.countP fun y => decide (y < x) : Nat) : Int)
  | [], x, _, h => by simp at h
  | a :: l, x, hp, h => by
    rw [List.pairwise_cons] at hp
    by_cases e : a = x
    · subst e
      have h0 : l.countP (fun y => decide (y < a)) = 0 := by
        rw [List.countP_eq_zero]
        intro y hy
        have := hp.1 y hy
        simp; omega
      rw [List.countP_cons, h0]
      have := fidx_hit (p := fun y => decide (y = a)) (xs := a :: l) (k := 0) (x := a) (by simp) (by simp) (fun j y hj => by omega)
      rw [this]; simp
    · have hx : x ∈ l := by
        rcases List.mem_cons.1 h with h | h
        · exact absurd h.symm e
        · exact h
      have hlt := hp.1 x hx
      have ih := fidx_lt_count l x hp.2 hx
      rw [fidx_cons_no (by simpa using e) (by rw [ih]; omega), ih, List.countP_cons, if_pos (by simpa using hlt)]
      rfl
def ntR (ds : List Dv) (p q : Int) : List Int := ddp (srt (p :: q :: pinsL ds))
theorem ntR_lt (ds : List Dv) (p q : Int) : (ntR ds p q).Pairwise (fun a b => a < b) := ddp_lt (srt_pairwise _)
theorem mem_ntR {ds : List Dv} {p q z : Int} : z ∈ ntR ds p q ↔ usR ds p q z = true := by
  unfold ntR usR
  rw [mem_ddp, (srt_perm _).mem_iff, List.mem_cons, List.mem_cons, mem_pinsL]
  simp
theorem cnt_below {D : List Int} {f : Int → Bool} (hD : D.Pairwise (fun a b => a < b)) (hm : ∀ z, z ∈ D ↔ f z = true) (h0 : ∀ z ∈ D, 0 ≤ z) (n : Nat) :
    D.countP (fun y => decide (y < (n : Int))) = (List.range n).countP fun (i : Nat) => f (i : Int) := by
  rw [List.countP_eq_length_filter, List.countP_eq_length_filter]
  have hp : (D.filter fun y => decide (y < (n : Int))).Perm (((List.range n).filter fun (i : Nat) => f (i : Int)).map fun (i : Nat) => (i : Int)) := by
    refine perm_of_mem _ _ ?_ ?_ ?_
    · exact (hD.imp (fun {a b} h e => by omega)).filter _
    · have hn : ((List.range n).filter fun (i : Nat) => f (i : Int)).Nodup := List.Pairwise.filter _ List.nodup_range
      exact List.pairwise_map.2 (hn.imp (fun {a b} h e => h (by omega)))
    · intro z
      rw [List.mem_filter, List.mem_map, hm]
      constructor
      · rintro ⟨h1, h2⟩
        have := h0 z ((hm z).2 h1)
        have h3 : z < n := of_decide_eq_true h2
        refine ⟨z.toNat, ?_, by omega⟩
        rw [List.mem_filter, List.mem_range]
        have e : ((z.toNat : Nat) : Int) = z := by omega
        exact ⟨by omega, by rw [e]; exact h1⟩
      · rintro ⟨i, hi, rfl⟩
        rw [List.mem_filter, List.mem_range] at hi
        exact ⟨hi.2, by simp; exact hi.1⟩
  rw [hp.length_eq, List.length_map]
theorem nt_node {ds : List Dv} {p q z : Int} (h0 : 0 ≤ p) (h1 : 0 ≤ q) (h2 : ∀ d ∈ ds, ∀ y ∈ d.pins, 0 ≤ y) (hz : usR ds p q z = true) :
    fidx (fun y => decide (y = z)) (ntR ds p q) = ((cnR ds p q z.toNat : Nat) : Int) ∧ 0 ≤ z := by
  have hp : ∀ y ∈ ntR ds p q, 0 ≤ y := fun y hy => by
    have h := hy
    unfold ntR at h
    rw [mem_ddp, (srt_perm _).mem_iff, List.mem_cons, List.mem_cons] at h
    rcases h with rfl | rfl | h
    · exact h0
    · exact h1
    · unfold pinsL at h
      rw [List.mem_flatMap] at h
      obtain ⟨d, hd, hy'⟩ := h
      exact h2 d hd y hy'
  have hz' := mem_ntR.2 hz
  have hz0 := hp z hz'
  refine ⟨?_, hz0⟩
  rw [fidx_lt_count _ _ (ntR_lt ds p q) hz']
  have := cnt_below (ntR_lt ds p q) (fun y => mem_ntR) hp z.toNat
  have e : ((z.toNat : Nat) : Int) = z := by omega
  rw [e] at this
  rw [this]
  rfl
theorem nt_len {ds : List Dv} {p q : Int} {n : Nat} (h0 : 0 ≤ p ∧ p < n) (h1 : 0 ≤ q ∧ q < n) (h2 : ∀ d ∈ ds, ∀ y ∈ d.pins, 0 ≤ y ∧ y < n) : (ntR ds p q).length = cnR ds p q n := by
  have hp : ∀ y ∈ ntR ds p q, 0 ≤ y ∧ y < n := fun y hy => by
    have h := hy
    unfold ntR at h
    rw [mem_ddp, (srt_perm _).mem_iff, List.mem_cons, List.mem_cons] at h
    rcases h with rfl | rfl | h
    · exact h0
    · exact h1
    · unfold pinsL at h
      rw [List.mem_flatMap] at h
      obtain ⟨d, hd, hy'⟩ := h
      exact h2 d hd y hy'
  have := cnt_below (ntR_lt ds p q) (fun y => mem_ntR) (fun z hz => (hp z hz).1) n
  unfold cnR
  rw [← this, List.countP_eq_length.2 (fun y hy => by simpa using (hp y hy).2)]
theorem pin_us {ds : List Dv} {p q : Int} {d : Dv} (hd : d ∈ ds) {z : Int} (hz : z ∈ d.pins) : usR ds p q z = true := by
  unfold usR
  have : z ∈ pinsL ds := List.mem_flatMap.2 ⟨d, hd, hz⟩
  rw [mem_pinsL] at this
  simp [this]
theorem us_p (ds : List Dv) (p q : Int) : usR ds p q p = true := by simp [usR]
theorem us_q (ds : List Dv) (p q : Int) : usR ds p q q = true := by simp [usR]
def ptN (ps : List Pt) (a : ByteArray) : Int := match ps.find? (fun o => o.name.toList == a.toList) with | some o => o.net | none => -1
def nrQ (x : Nl) (p q : Int) : Rt × Int := if nwB (netR (rmS x).ds p q x.nets.toNat).nodes (netR (rmS x).ds p q x.nets.toNat).rs = true then (erS (netR (rmS x).ds p q x.nets.toNat) (cnR (rmS x).ds p q p.toNat) (cnR (rmS x).ds p q q.toNat), nkC (netR (rmS x).ds p q x.nets.toNat) (cnR (rmS x).ds p q p.toNat) (cnR (rmS x).ds p q q.toNat)) else (⟨0, 0⟩, 3)
def nrS (x : Nl) (a b : ByteArray) : Rt × Int :=
  if nlB x = true then (if ptN x.ps a < 0 ∨ ptN x.ps b < 0 then (⟨0, 0⟩, 5) else if x.ds.all (fun d => decide (d.kind = 2)) = true then nrQ x (ptN x.ps a) (ptN x.ps b) else (⟨0, 0⟩, 6)) else (⟨0, 0⟩, 1)
theorem ptN_hit {ps : List Pt} {a : ByteArray} {k : Nat} {o : Pt} (hk : ps[k]? = some o) (h : (o.name.toList == a.toList) = true) (hb : ∀ (j : Nat) q, j < k → ps[j]? = some q → (q.name.toList == a.toList) = false) : ptN ps a = o.net := by
  have hlt := (List.getElem?_eq_some_iff.1 hk).1
  have : ps.find? (fun o => o.name.toList == a.toList) = some o := by
    rw [List.find?_eq_some_iff_getElem]
    refine ⟨h, k, hlt, (List.getElem?_eq_some_iff.1 hk).2, fun j hj => ?_⟩
    have := hb j _ hj (List.getElem?_eq_getElem (by omega))
    simp only [this, Bool.not_false]
  unfold ptN
  rw [this]
theorem ptN_miss {ps : List Pt} {a : ByteArray} (hb : ∀ (j : Nat) q, ps[j]? = some q → (q.name.toList == a.toList) = false) : ptN ps a = -1 := by
  have : ps.find? (fun o => o.name.toList == a.toList) = none := by
    rw [List.find?_eq_none]
    intro q hq
    obtain ⟨j, hj, e⟩ := List.getElem_of_mem hq
    have := hb j q (by rw [List.getElem?_eq_getElem hj, e])
    simp only [this, Bool.false_eq_true, not_false_eq_true]
  unfold ptN
  rw [this]
set_option maxRecDepth 100000 in
set_option maxHeartbeats 1000000 in
theorem l28PortNet_any (x : Nl) (v : Value) (a : ByteArray) (w : World) (h : NlV w v x) (hl : x.ps.length ≤ 1048576) :
    Calls Tryz.prog 30 #[v, .string a] w fun e w' => e = .returned (.int .i64 (ptN x.ps a)) ∧ Below w.heap.size w w' := by
  obtain ⟨s1, s2, rfl, hd, hp⟩ := h
  obtain ⟨nets, ds, ps⟩ := x
  dsimp only at hd hp hl ⊢
  have HN := Lib.hid (@ptN_miss ps a)
  have HY := Lib.hid (fun k o => @ptN_hit ps a k o)
  have HP := Lib.hid hp
  generalize ptN ps a = r at *
  obtain ⟨a1, c1, rfl⟩ := hd.sized
  obtain ⟨a2, c2, rfl⟩ := hp.sized
  clear hd hp
  go_enter Tryz.func30, Tryz.ntmps30
  go_wp2
  go_loop [5] (fun i => ∃ k : Nat, k ≤ ps.length ∧ i = .int .i64 k ∧ Hid (∀ (j : Nat) (o : Pt), j < k → ps[j]? = some o → (o.name.toList == a.toList) = false)) (fun i => ps.length - (intOf i).toNat)
  case atStart => exact ⟨0, Nat.zero_le _, rfl, Lib.hid (by intro j o h; omega)⟩
  case round =>
    obtain ⟨k, hk, rfl, HI⟩ := hrel
    by_cases hlt : k < ps.length
    · obtain ⟨x, hx⟩ : ∃ x, ps[k]? = some x := ⟨ps[k], List.getElem?_eq_getElem hlt⟩
      have HPS := HP.out
      rcases HPS with ⟨_, _, _, h2⟩ | ⟨b, off, cap, he, h2, h3, h4⟩
      · rw [h2] at hlt; simp at hlt
      obtain ⟨rfl, rfl⟩ : a2 = some ⟨b, off, none⟩ ∧ c2 = cap := by simpa using he
      obtain ⟨p1, p2⟩ := h4 k x hx
      have lP := lt_of_cell p1
      dsimp only at lP
      have HX := Lib.hid hx
      have i1 : (0 : Int) ≤ (k : Int) := by omega
      have i2 : (k : Int) < (ps.length : Int) := by omega
      clear h4 hx he
      obtain ⟨nm, net⟩ := x
      dsimp only at p1 p2
      cases hq : (nm.toList == a.toList) with
      | true =>
        have hr := Lib.hid (HY.out k ⟨nm, net⟩ HX.out hq HI.out)
        go_wp2
        go_ret
        exact ⟨ret_i64 hr.out.symm, blwT⟩
      | false =>
        have HQ := Lib.hid hq
        go_wp2
        go_round
        case rel => exact ⟨k + 1, by omega, by go_num, Lib.hid (fun j o hj ho => by
          by_cases e : j = k
          · subst e; obtain rfl : o = ⟨nm, net⟩ := Option.some.inj (ho.symm.trans HX.out); exact HQ.out
          · exact HI.out j o (by omega) ho)⟩
        case measure => simp [intOf]; omega
    · obtain rfl : k = ps.length := by omega
      have hr := Lib.hid (HN.out (fun j o ho => HI.out j o (List.getElem?_eq_some_iff.1 ho).1 ho))
      go_wp2
      go_ret
      exact ⟨ret_i64 hr.out.symm, blwT⟩
theorem fidx_ptN (ps : List Pt) (a : ByteArray) : (fidx (fun o => o.name.toList == a.toList) ps = -1 ∧ ptN ps a = -1) ∨ ∃ (k : Nat) (o : Pt), ps[k]? = some o ∧ fidx (fun o => o.name.toList == a.toList) ps = k ∧ ptN ps a = o.net := by
  unfold fidx
  cases h : ps.findIdx? (fun o => o.name.toList == a.toList) with
  | none =>
    rw [List.findIdx?_eq_none_iff] at h
    exact .inl ⟨rfl, ptN_miss (fun j q hq => by have := h q (List.mem_of_getElem? hq); simpa using this)⟩
  | some k =>
    rw [List.findIdx?_eq_some_iff_getElem] at h
    obtain ⟨hk, h1, h2⟩ := h
    refine .inr ⟨k, _, List.getElem?_eq_getElem hk, rfl, ptN_hit (List.getElem?_eq_getElem hk) h1 (fun j q hj hq => ?_)⟩
    have hjl : j < ps.length := by omega
    rw [List.getElem?_eq_getElem hjl] at hq
    have := h2 j hj
    rw [Option.some.inj hq] at this
    simpa using this
set_option maxRecDepth 100000 in
set_option maxHeartbeats 1000000 in
theorem portNet1_any (o : Pt) (a : ByteArray) (B : Nat) (W : World) (hB : Blk W B #[.string a] 9) :
    Calls Tryz.prog 42 #[.agg #[.string o.name, .int .i64 o.net], .pointer (some ⟨B, 0, none⟩)] W fun e w' => e = .returned (.bool (o.name.toList == a.toList)) ∧ Below W.heap.size W w' := by
  have q := hB.cell
  have l := hB.lt
  obtain ⟨nm, net⟩ := o
  dsimp only
  generalize hr : (nm.toList == a.toList) = r
  go_enter Tryz.func42, Tryz.ntmps42
  go_wp2
  go_ret
  exact ⟨ret_bool rfl, blwT⟩
theorem indexPN_any (sv : Value) (ps : List Pt) (a : ByteArray) (B : Nat) (w : World) (h : PtSl w sv ps) (hB : Blk w B #[.string a] 9) :
    Calls Tryz.prog 41 #[sv, .func (.func 42) #[] #[.pointer (some ⟨B, 0, none⟩)]] w fun e w' => e = .returned (.int .i64 (fidx (fun o => o.name.toList == a.toList) ps)) ∧ Below w.heap.size w w' := by
  have eg : ∀ args w, (callFunc 42 args).run Tryz.prog w = .ok (.enter 42 args) w := enters_of Tryz.func42 (by kernel_rfl) rfl
  refine indexFuncP_any 42 #[.pointer (some ⟨B, 0, none⟩)] eg (fun o => o.name.toList == a.toList) sv ps w h ?_
  intro W o hb ho
  show Calls Tryz.prog 42 #[.agg #[.string o.name, .int .i64 o.net], .pointer (some ⟨B, 0, none⟩)] W _
  exact portNet1_any o a B W (Blk.by hb hB)
set_option maxRecDepth 100000 in
set_option maxHeartbeats 1000000 in
theorem portNet_any (x : Nl) (v : Value) (a : ByteArray) (w : World) (h : NlV w v x) (hl : x.ps.length ≤ 1048576) (hnn : ∀ p ∈ x.ps, 0 ≤ p.net) :
    Calls Tryz.prog 13 #[v, .string a] w fun e w' => e = .returned (.tuple #[.int .i64 (if ptN x.ps a < 0 then 0 else ptN x.ps a), .bool (decide (¬ ptN x.ps a < 0))]) ∧ Below w.heap.size w w' := by
  obtain ⟨s1, s2, rfl, hd, hp⟩ := h
  obtain ⟨nets, ds, ps⟩ := x
  dsimp only at hd hp hl hnn ⊢
  have HF := fidx_ptN ps a
  have HP := Lib.hid hp
  have HNN := Lib.hid hnn
  have HI := Lib.hid (fun B w h hB => indexPN_any s2 ps a B w h hB)
  obtain ⟨F, hF⟩ : ∃ F, fidx (fun o : Pt => o.name.toList == a.toList) ps = F := ⟨_, rfl⟩
  rw [hF] at HF HI
  clear hF
  generalize ptN ps a = r at *
  obtain ⟨a1, c1, rfl⟩ := hd.sized
  obtain ⟨a2, c2, rfl⟩ := hp.sized
  clear hd hp hnn
  have kB : Blk ((w.alloc (.cells #[.int .i64 nets, .slice a1 ds.length c1, .slice a2 ps.length c2] 27)).alloc (.cells #[.string a] 9)) (w.heap.size + 1) #[.string a] 9 := Blk.new _ (by simp)
  have HB := Lib.hid kB
  clear kB
  rcases HF with ⟨rfl, rfl⟩ | ⟨k, o, hk, rfl, rfl⟩
  · go_enter Tryz.func13, Tryz.ntmps13
    go_wp2_with (go_at_call 41; refine (HI.out _ _ (HP.out.by blwT) HB.out).mono ?_; rintro e w1 ⟨rfl, hb1⟩)
    refine bodyPost_ret (v := .tuple #[.int .i64 0, .bool false]) (by simp [results, Tryz.results13, go_sem, *]) rfl ⟨rfl, blwT⟩
  · have hn0 := HNN.out o (List.mem_of_getElem? hk)
    have hlt := (List.getElem?_eq_some_iff.1 hk).1
    have HK := Lib.hid hk
    have i1 : (0 : Int) ≤ (k : Int) := by omega
    have i2 : (k : Int) < (ps.length : Int) := by omega
    have i3 : ¬ (k : Int) < 0 := by omega
    have i4 : ¬ o.net < 0 := by omega
    rw [if_neg i4, decide_eq_true i4]
    have HPS := HP.out
    rcases HPS with ⟨_, _, _, h2⟩ | ⟨b, off, cap, he, h2, h3, h4⟩
    · rw [h2] at hlt; simp at hlt
    obtain ⟨rfl, rfl⟩ : a2 = some ⟨b, off, none⟩ ∧ c2 = cap := by simpa using he
    obtain ⟨p1, p2⟩ := h4 k o hk
    have lP := lt_of_cell p1
    dsimp only at lP
    generalize o.net = net at *
    clear h4 hk he HNN hn0 i4
    go_enter Tryz.func13, Tryz.ntmps13
    go_wp2_with (go_at_call 41; refine (HI.out _ _ (HP.out.by blwT) HB.out).mono ?_; rintro e w1 ⟨rfl, hb1⟩; have kA : Blk w1 w.heap.size #[.int .i64 nets, .slice a1 ds.length c1, .slice (some ⟨b, off, none⟩) ps.length c2] 27 := blkT; have qA := kA.cell; have lA := kA.lt; have hW : Below w.heap.size w w1 := blwT; have p3 := cell_by' hW p2; have hsz := hW.size)
    refine bodyPost_ret (v := .tuple #[.int .i64 net, .bool true]) (by simp [results, Tryz.results13, go_sem, *]) rfl ⟨rfl, blwT⟩
theorem tmod_bd (p q : Int) (h : q ≠ 0) : (p.tmod q).natAbs < q.natAbs ∧ (p.tmod q).natAbs ≤ p.natAbs := by
  rw [Int.natAbs_tmod]
  exact ⟨Nat.mod_lt _ (by omega), Nat.mod_le _ _⟩
set_option maxHeartbeats 1000000 in
theorem l26Valid_any (n d : Int) (w : World) (hn : -9223372036854775808 ≤ n) (hn' : n ≤ 9223372036854775807) (hd : -9223372036854775808 ≤ d) (hd' : d ≤ 9223372036854775807) :
    Calls Tryz.prog 68 #[.agg #[.int .i64 n, .int .i64 d]] w fun e w' => e = .returned (.bool (vrB n d)) ∧ Below w.heap.size w w' := by
  by_cases h0 : 0 < d
  · rw [vrB_of n h0]
    go_enter Tryz.func68, Tryz.ntmps68
    go_wp2
    go_quiet (fail)
    go_wp2
    go_loopw [3, 4] (fun x y wr => ∃ p q : Int, x = .int .i64 p ∧ y = .int .i64 q ∧ -9223372036854775808 ≤ p ∧ p ≤ 9223372036854775807 ∧ -9223372036854775808 ≤ q ∧ q ≤ 9223372036854775807 ∧ Int.gcd p q = Int.gcd n d ∧ Below w.heap.size w wr) (fun _ y _ => (intOf y).natAbs)
    case atStart => exact ⟨n, d, rfl, rfl, hn, hn', hd, hd', rfl, blwT⟩
    case round =>
      obtain ⟨p, q, rfl, rfl, hp, hp', hq, hq', hg, hbw⟩ := hrel
      have HG := Lib.hid hg
      clear hg
      by_cases hz : q = 0
      · subst hz
        have h3 : p.gcd 0 = p.natAbs := Int.gcd_zero_right p
        have h4 := Lib.hid (h3.symm.trans HG.out)
        clear h3
        go_wp2
        all_goals go_ret
        all_goals exact ⟨ret_bool (by rw [Bool.eq_iff_iff]; have := h4.out; simp; omega), hbw⟩
      · have hz' : (q == 0) = false := by simpa using hz
        have h1 := tmod_bd p q hz
        go_wp2
        go_quiet (fail)
        go_wp2
        exact ⟨⟨q, p.tmod q, rfl, rfl, hq, hq', by omega, by omega, by rw [gcd_tstep]; exact HG.out, blwT⟩, by have := h1.1; simp [intOf] at this ⊢; exact this⟩
  · rw [vrB_neg n (by omega)]
    go_enter Tryz.func68, Tryz.ntmps68
    go_wp2
    go_ret
    exact ⟨rfl, blwT⟩
theorem l26Valid_is (n d : Int) (b : Bool) (w : World) (h : vrB n d = b) (hn : -9223372036854775808 ≤ n) (hn' : n ≤ 9223372036854775807) (hd : -9223372036854775808 ≤ d) (hd' : d ≤ 9223372036854775807) :
    Calls Tryz.prog 68 #[.agg #[.int .i64 n, .int .i64 d]] w fun e w' => e = .returned (.bool b) ∧ Below w.heap.size w w' := h ▸ l26Valid_any n d w hn hn' hd hd'
set_option maxRecDepth 100000 in
set_option maxHeartbeats 4000000 in
theorem specValid_any (nodes : Int) (sv : Value) (xs : List Res) (w : World) (h : ResSl w sv xs) (hok : ∀ x ∈ xs, x.ok) (hnn : -9223372036854775808 ≤ nodes ∧ nodes ≤ 9223372036854775807) :
    Calls Tryz.prog 33 #[.agg #[.int .i64 nodes, sv]] w fun e w' => e = .returned (.bool (nwB nodes xs)) ∧ Below w.heap.size w w' := by
  obtain ⟨r, hr⟩ : ∃ r, nwB nodes xs = r := ⟨_, rfl⟩
  rw [hr]
  have HR := Lib.hid hr
  clear hr
  have hlen : xs.length ≤ maxLen := by
    rcases h with ⟨_, _, _, h2⟩ | ⟨b, off, cap, h1, h2, h3, _⟩
    · subst h2; simp
    · exact Nat.le_trans h2 h3
  unfold maxLen at hlen
  rcases Bool.eq_false_or_eq_true (inB nodes 1 6) with a | a
  · by_cases h8 : xs.length ≤ 8
    · have hnb := inB_iff.1 a
      have HL := Lib.hid h
      have HA := Lib.hid a
      have HK := Lib.hid hok
      obtain ⟨ad, c, rfl⟩ := h.len
      clear h hok
      go_enter Tryz.func33, Tryz.ntmps33
      go_wp2_with (go_at_call 63; refine (l16In_any _ _ _ _).mono ?_; rintro e w' ⟨rfl, rfl⟩)
      go_loopw [3, 4] (fun l i wr => ∃ k : Nat, k ≤ xs.length ∧ i = .int .i64 k ∧ l = .int .i64 (leftOf (xs.take k)) ∧ (0 ≤ leftOf (xs.take k) ∧ leftOf (xs.take k) ≤ 10000000000000000) ∧ (∀ x ∈ xs.take k, rsB nodes x = true) ∧ Blk wr w.heap.size #[.int .i64 nodes, .slice ad xs.length c] 55 ∧ Below w.heap.size w wr) (fun _ i _ => xs.length - (intOf i).toNat)
      case atStart => exact ⟨0, Nat.zero_le _, rfl, rfl, by simp [leftOf], by simp, blkT, blwT⟩
      case round =>
        obtain ⟨k, hk, rfl, rfl, hl, hall, kN, hb⟩ := hrel
        have cN := kN.cell
        have fN := kN.free
        have lN := kN.lt
        have HALL := Lib.hid hall
        clear hall
        by_cases hlt : k < xs.length
        · obtain ⟨x, hx⟩ : ∃ x, xs[k]? = some x := ⟨xs[k], List.getElem?_eq_getElem hlt⟩
          obtain ⟨hk1, hk2, hk3, hk4⟩ := HK.out x (List.mem_of_getElem? hx)
          rcases HL.out with ⟨a0, c0, h1, h2⟩ | ⟨b, off, cap, h1, h2, h3, h4⟩
          · exact absurd hlt (by rw [h2]; simp)
          cases h1
          obtain ⟨c1, c2, c3, c4⟩ := (h4 k x hx).by hb
          clear h4
          unfold maxLen at h3
          have HT := Lib.hid (show leftOf (xs.take (k + 1)) = leftOf (xs.take k) / max x.num x.den from by rw [take_succ_of xs k x hx, leftOf_snoc])
          have HX := Lib.hid hx
          clear hx
          generalize leftOf (xs.take k) = l at *
          rcases Bool.eq_false_or_eq_true (inB x.a 0 (nodes - 1)) with e1 | e1
          case inr =>
            go_wp2_with (go_at_call 63; refine (l16In_any _ _ _ _).mono ?_; rintro e w' ⟨rfl, rfl⟩)
            go_ret
            exact ⟨ret_bool (by rw [← HR.out]; exact (nw_no3 HX.out (by simp [rsB, e1])).symm), blwT⟩
          rcases Bool.eq_false_or_eq_true (inB x.b 0 (nodes - 1)) with e2 | e2
          case inr =>
            go_wp2_with (go_at_call 63; refine (l16In_any _ _ _ _).mono ?_; rintro e w' ⟨rfl, rfl⟩)
            go_ret
            exact ⟨ret_bool (by rw [← HR.out]; exact (nw_no3 HX.out (by simp [rsB, e2])).symm), blwT⟩
          rcases Bool.eq_false_or_eq_true (x.a == x.b) with e3 | e3
          case inl =>
            go_wp2_with (go_at_call 63; refine (l16In_any _ _ _ _).mono ?_; rintro e w' ⟨rfl, rfl⟩)
            go_ret
            exact ⟨ret_bool (by rw [← HR.out]; exact (nw_no3 HX.out (by simp only [rsB, e3]; simp)).symm), blwT⟩
          rcases Bool.eq_false_or_eq_true (vrB x.num x.den) with e4 | e4
          case inr =>
            have ev := Lib.hid e4
            go_wp2_with (go_at_call 63; refine (l16In_any _ _ _ _).mono ?_; rintro e w' ⟨rfl, rfl⟩)
            refine (l26Valid_is x.num x.den false _ ev.out hk3.1 hk3.2 hk4.1 hk4.2).mono ?_
            rintro e w1 ⟨rfl, hb1⟩
            have k1 := Blk.by hb1 ((kN.past _))
            have k2 : Blk w1 wr.heap.size #[.int .i64 x.a, .int .i64 x.b, .int .i64 x.num, .int .i64 x.den] 57 := Blk.by hb1 (Blk.new _ rfl)
            have c1 := k1.cell
            have c2 := k2.cell
            have f1 := k1.free
            have f2 := k2.free
            go_wp2
            go_ret
            exact ⟨ret_bool (by rw [← HR.out]; exact (nw_no3 HX.out (by simp [rsB, ev.out])).symm), blwT⟩
          rcases Bool.eq_false_or_eq_true (inB x.num 1 1000000) with e5 | e5
          case inr =>
            have ev := Lib.hid e4
            go_wp2_with (go_at_call 63; refine (l16In_any _ _ _ _).mono ?_; rintro e w' ⟨rfl, rfl⟩)
            refine (l26Valid_is x.num x.den true _ ev.out hk3.1 hk3.2 hk4.1 hk4.2).mono ?_
            rintro e w1 ⟨rfl, hb1⟩
            have k1 := Blk.by hb1 ((kN.past _))
            have k2 : Blk w1 wr.heap.size #[.int .i64 x.a, .int .i64 x.b, .int .i64 x.num, .int .i64 x.den] 57 := Blk.by hb1 (Blk.new _ rfl)
            have c1 := k1.cell
            have c2 := k2.cell
            have f1 := k1.free
            have f2 := k2.free
            go_wp2_with (go_at_call 63; refine (l16In_any _ _ _ _).mono ?_; rintro e w' ⟨rfl, rfl⟩)
            go_ret
            exact ⟨ret_bool (by rw [← HR.out]; exact (nw_no3 HX.out (by simp [rsB, e5])).symm), blwT⟩
          by_cases e6 : x.den ≤ 1000000
          case neg =>
            have ev := Lib.hid e4
            go_wp2_with (go_at_call 63; refine (l16In_any _ _ _ _).mono ?_; rintro e w' ⟨rfl, rfl⟩)
            refine (l26Valid_is x.num x.den true _ ev.out hk3.1 hk3.2 hk4.1 hk4.2).mono ?_
            rintro e w1 ⟨rfl, hb1⟩
            have k1 := Blk.by hb1 ((kN.past _))
            have k2 : Blk w1 wr.heap.size #[.int .i64 x.a, .int .i64 x.b, .int .i64 x.num, .int .i64 x.den] 57 := Blk.by hb1 (Blk.new _ rfl)
            have c1 := k1.cell
            have c2 := k2.cell
            have f1 := k1.free
            have f2 := k2.free
            go_wp2_with (go_at_call 63; refine (l16In_any _ _ _ _).mono ?_; rintro e w' ⟨rfl, rfl⟩)
            go_ret
            exact ⟨ret_bool (by rw [← HR.out]; exact (nw_no3 HX.out (by simp only [rsB, show decide (x.den ≤ 1000000) = false from by simp; omega]; simp)).symm), blwT⟩
          case pos =>
            have ev := Lib.hid e4
            have h5 := inB_iff.1 e5
            have HQ := Lib.hid (show rsB nodes x = true from by simp only [rsB, e1, e2, e3, e4, e5, show decide (x.den ≤ 1000000) = true from by simpa using e6]; rfl)
            have hbd := left_bd l x.num x.den hl.1 hl.2 h5.1
            have hpos := vrB_pos e4
            go_wp2_with (go_at_call 63; refine (l16In_any _ _ _ _).mono ?_; rintro e w' ⟨rfl, rfl⟩)
            refine (l26Valid_is x.num x.den true _ ev.out hk3.1 hk3.2 hk4.1 hk4.2).mono ?_
            rintro e w1 ⟨rfl, hb1⟩
            have k1 := Blk.by hb1 ((kN.past _))
            have k2 : Blk w1 wr.heap.size #[.int .i64 x.a, .int .i64 x.b, .int .i64 x.num, .int .i64 x.den] 57 := Blk.by hb1 (Blk.new _ rfl)
            have c1 := k1.cell
            have c2 := k2.cell
            have f1 := k1.free
            have f2 := k2.free
            go_wp2_with (go_at_call 63; refine (l16In_any _ _ _ _).mono ?_; rintro e w' ⟨rfl, rfl⟩)
            all_goals
              refine ⟨⟨k + 1, by omega, by go_num, by rw [HT.out]; first | rfl | (congr 2; omega), by rw [HT.out]; exact hbd, ?_, blkT, blwT⟩, by simp [intOf]; omega⟩
              intro y hy
              rw [take_succ_of xs k x HX.out] at hy
              rcases List.mem_append.1 hy with hy | hy
              · exact HALL.out y hy
              · rw [List.mem_singleton.1 hy]; exact HQ.out
        · obtain rfl : k = xs.length := by omega
          have HE := Lib.hid (show nwB nodes xs = decide (0 < leftOf (xs.take xs.length)) from by rw [List.take_length]; exact nw_yes HA.out h8 (by have := HALL.out; rwa [List.take_length] at this))
          generalize leftOf (xs.take xs.length) = l at *
          go_wp2
          go_ret
          exact ⟨ret_bool (by rw [← HR.out, HE.out]), blwT⟩
    · obtain ⟨ad, c, rfl⟩ := h.len
      clear h hok
      go_enter Tryz.func33, Tryz.ntmps33
      go_wp2_with (go_at_call 63; refine (l16In_any _ _ _ _).mono ?_; rintro e w' ⟨rfl, rfl⟩)
      go_ret
      exact ⟨ret_bool (by rw [← HR.out]; exact (nw_no2 nodes (by omega)).symm), blwT⟩
  · obtain ⟨ad, c, rfl⟩ := h.len
    clear h hok
    go_enter Tryz.func33, Tryz.ntmps33
    go_wp2_with (go_at_call 63; refine (l16In_any _ _ _ _).mono ?_; rintro e w' ⟨rfl, rfl⟩)
    go_ret
    exact ⟨ret_bool (by rw [← HR.out]; exact (nw_no1 xs a).symm), blwT⟩
set_option maxRecDepth 100000 in
set_option maxHeartbeats 4000000 in
theorem implValid_any (nodes : Int) (sv : Value) (xs : List Res) (w : World) (h : ResSl w sv xs) (hok : ∀ x ∈ xs, x.ok) (hnn : -9223372036854775808 ≤ nodes ∧ nodes ≤ 9223372036854775807) :
    Calls Tryz.prog 21 #[.agg #[.int .i64 nodes, sv]] w fun e w' => e = .returned (.bool (nwB nodes xs)) ∧ Below w.heap.size w w' := by
  obtain ⟨r, hr⟩ : ∃ r, nwB nodes xs = r := ⟨_, rfl⟩
  rw [hr]
  have HR := Lib.hid hr
  clear hr
  have hlen : xs.length ≤ maxLen := by
    rcases h with ⟨_, _, _, h2⟩ | ⟨b, off, cap, h1, h2, h3, _⟩
    · subst h2; simp
    · exact Nat.le_trans h2 h3
  unfold maxLen at hlen
  rcases Bool.eq_false_or_eq_true (inB nodes 1 6) with a | a
  · by_cases h8 : xs.length ≤ 8
    · have hnb := inB_iff.1 a
      have HL := Lib.hid h
      have HA := Lib.hid a
      have HK := Lib.hid hok
      obtain ⟨ad, c, rfl⟩ := h.len
      clear h hok
      go_enter Tryz.func21, Tryz.ntmps21
      go_wp2_with (go_at_call 37; refine (within_any _ _ _ _).mono ?_; rintro e w' ⟨rfl, rfl⟩)
      go_loopw [3, 19] (fun l i wr => ∃ k : Nat, k ≤ xs.length ∧ i = .int .i64 k ∧ l = .int .i64 (leftOf (xs.take k)) ∧ (0 ≤ leftOf (xs.take k) ∧ leftOf (xs.take k) ≤ 10000000000000000) ∧ (∀ x ∈ xs.take k, rsB nodes x = true) ∧ Blk wr w.heap.size #[.int .i64 nodes, .slice ad xs.length c] 55 ∧ Below w.heap.size w wr) (fun _ i _ => xs.length - (intOf i).toNat)
      case atStart => exact ⟨0, Nat.zero_le _, rfl, rfl, by simp [leftOf], by simp, blkT, blwT⟩
      case round =>
        obtain ⟨k, hk, rfl, rfl, hl, hall, kN, hb⟩ := hrel
        have cN := kN.cell
        have fN := kN.free
        have lN := kN.lt
        have HALL := Lib.hid hall
        clear hall
        by_cases hlt : k < xs.length
        · obtain ⟨x, hx⟩ : ∃ x, xs[k]? = some x := ⟨xs[k], List.getElem?_eq_getElem hlt⟩
          obtain ⟨hk1, hk2, hk3, hk4⟩ := HK.out x (List.mem_of_getElem? hx)
          rcases HL.out with ⟨a0, c0, h1, h2⟩ | ⟨b, off, cap, h1, h2, h3, h4⟩
          · exact absurd hlt (by rw [h2]; simp)
          cases h1
          obtain ⟨c1, c2, c3, c4⟩ := (h4 k x hx).by hb
          clear h4
          unfold maxLen at h3
          have HT := Lib.hid (show leftOf (xs.take (k + 1)) = leftOf (xs.take k) / max x.num x.den from by rw [take_succ_of xs k x hx, leftOf_snoc])
          have HX := Lib.hid hx
          clear hx
          generalize leftOf (xs.take k) = l at *
          rcases Bool.eq_false_or_eq_true (inB x.a 0 (nodes - 1)) with e1 | e1
          case inr =>
            go_wp2_with (go_at_call 37; refine (within_any _ _ _ _).mono ?_; rintro e w' ⟨rfl, rfl⟩)
            go_ret
            exact ⟨ret_bool (by rw [← HR.out]; exact (nw_no3 HX.out (by simp [rsB, e1])).symm), blwT⟩
          rcases Bool.eq_false_or_eq_true (inB x.b 0 (nodes - 1)) with e2 | e2
          case inr =>
            go_wp2_with (go_at_call 37; refine (within_any _ _ _ _).mono ?_; rintro e w' ⟨rfl, rfl⟩)
            go_ret
            exact ⟨ret_bool (by rw [← HR.out]; exact (nw_no3 HX.out (by simp [rsB, e2])).symm), blwT⟩
          rcases Bool.eq_false_or_eq_true (x.a == x.b) with e3 | e3
          case inl =>
            go_wp2_with (go_at_call 37; refine (within_any _ _ _ _).mono ?_; rintro e w' ⟨rfl, rfl⟩)
            go_ret
            exact ⟨ret_bool (by rw [← HR.out]; exact (nw_no3 HX.out (by simp only [rsB, e3]; simp)).symm), blwT⟩
          rcases Bool.eq_false_or_eq_true (vrB x.num x.den) with e4 | e4
          case inr =>
            have ev := Lib.hid e4
            go_wp2_with (go_at_call 37; refine (within_any _ _ _ _).mono ?_; rintro e w' ⟨rfl, rfl⟩)
            refine (validRatio_is x.num x.den false _ ev.out hk3.1 hk3.2 hk4.1 hk4.2).mono ?_
            rintro e w1 ⟨rfl, hb1⟩
            have k1 := Blk.by hb1 ((kN.past _))
            have k2 : Blk w1 wr.heap.size #[.int .i64 x.a, .int .i64 x.b, .int .i64 x.num, .int .i64 x.den] 57 := Blk.by hb1 (Blk.new _ rfl)
            have c1 := k1.cell
            have c2 := k2.cell
            have f1 := k1.free
            have f2 := k2.free
            go_wp2
            go_ret
            exact ⟨ret_bool (by rw [← HR.out]; exact (nw_no3 HX.out (by simp [rsB, ev.out])).symm), blwT⟩
          rcases Bool.eq_false_or_eq_true (inB x.num 1 1000000) with e5 | e5
          case inr =>
            have ev := Lib.hid e4
            go_wp2_with (go_at_call 37; refine (within_any _ _ _ _).mono ?_; rintro e w' ⟨rfl, rfl⟩)
            refine (validRatio_is x.num x.den true _ ev.out hk3.1 hk3.2 hk4.1 hk4.2).mono ?_
            rintro e w1 ⟨rfl, hb1⟩
            have k1 := Blk.by hb1 ((kN.past _))
            have k2 : Blk w1 wr.heap.size #[.int .i64 x.a, .int .i64 x.b, .int .i64 x.num, .int .i64 x.den] 57 := Blk.by hb1 (Blk.new _ rfl)
            have c1 := k1.cell
            have c2 := k2.cell
            have f1 := k1.free
            have f2 := k2.free
            go_wp2_with (go_at_call 37; refine (within_any _ _ _ _).mono ?_; rintro e w' ⟨rfl, rfl⟩)
            go_ret
            exact ⟨ret_bool (by rw [← HR.out]; exact (nw_no3 HX.out (by simp [rsB, e5])).symm), blwT⟩
          by_cases e6 : x.den ≤ 1000000
          case neg =>
            have ev := Lib.hid e4
            go_wp2_with (go_at_call 37; refine (within_any _ _ _ _).mono ?_; rintro e w' ⟨rfl, rfl⟩)
            refine (validRatio_is x.num x.den true _ ev.out hk3.1 hk3.2 hk4.1 hk4.2).mono ?_
            rintro e w1 ⟨rfl, hb1⟩
            have k1 := Blk.by hb1 ((kN.past _))
            have k2 : Blk w1 wr.heap.size #[.int .i64 x.a, .int .i64 x.b, .int .i64 x.num, .int .i64 x.den] 57 := Blk.by hb1 (Blk.new _ rfl)
            have c1 := k1.cell
            have c2 := k2.cell
            have f1 := k1.free
            have f2 := k2.free
            go_wp2_with (go_at_call 37; refine (within_any _ _ _ _).mono ?_; rintro e w' ⟨rfl, rfl⟩)
            go_ret
            exact ⟨ret_bool (by rw [← HR.out]; exact (nw_no3 HX.out (by simp only [rsB, show decide (x.den ≤ 1000000) = false from by simp; omega]; simp)).symm), blwT⟩
          case pos =>
            have ev := Lib.hid e4
            have h5 := inB_iff.1 e5
            have HQ := Lib.hid (show rsB nodes x = true from by simp only [rsB, e1, e2, e3, e4, e5, show decide (x.den ≤ 1000000) = true from by simpa using e6]; rfl)
            have hbd := left_bd l x.num x.den hl.1 hl.2 h5.1
            have hpos := vrB_pos e4
            go_wp2_with (go_at_call 37; refine (within_any _ _ _ _).mono ?_; rintro e w' ⟨rfl, rfl⟩)
            refine (validRatio_is x.num x.den true _ ev.out hk3.1 hk3.2 hk4.1 hk4.2).mono ?_
            rintro e w1 ⟨rfl, hb1⟩
            have k1 := Blk.by hb1 ((kN.past _))
            have k2 : Blk w1 wr.heap.size #[.int .i64 x.a, .int .i64 x.b, .int .i64 x.num, .int .i64 x.den] 57 := Blk.by hb1 (Blk.new _ rfl)
            have c1 := k1.cell
            have c2 := k2.cell
            have f1 := k1.free
            have f2 := k2.free
            go_wp2_with (go_at_call 37; refine (within_any _ _ _ _).mono ?_; rintro e w' ⟨rfl, rfl⟩)
            all_goals
              refine ⟨⟨k + 1, by omega, by go_num, by rw [HT.out]; first | rfl | (congr 2; omega), by rw [HT.out]; exact hbd, ?_, blkT, blwT⟩, by simp [intOf]; omega⟩
              intro y hy
              rw [take_succ_of xs k x HX.out] at hy
              rcases List.mem_append.1 hy with hy | hy
              · exact HALL.out y hy
              · rw [List.mem_singleton.1 hy]; exact HQ.out
        · obtain rfl : k = xs.length := by omega
          have HE := Lib.hid (show nwB nodes xs = decide (0 < leftOf (xs.take xs.length)) from by rw [List.take_length]; exact nw_yes HA.out h8 (by have := HALL.out; rwa [List.take_length] at this))
          generalize leftOf (xs.take xs.length) = l at *
          go_wp2
          go_ret
          exact ⟨ret_bool (by rw [← HR.out, HE.out]), blwT⟩
    · obtain ⟨ad, c, rfl⟩ := h.len
      clear h hok
      go_enter Tryz.func21, Tryz.ntmps21
      go_wp2_with (go_at_call 37; refine (within_any _ _ _ _).mono ?_; rintro e w' ⟨rfl, rfl⟩)
      go_ret
      exact ⟨ret_bool (by rw [← HR.out]; exact (nw_no2 nodes (by omega)).symm), blwT⟩
  · obtain ⟨ad, c, rfl⟩ := h.len
    clear h hok
    go_enter Tryz.func21, Tryz.ntmps21
    go_wp2_with (go_at_call 37; refine (within_any _ _ _ _).mono ?_; rintro e w' ⟨rfl, rfl⟩)
    go_ret
    exact ⟨ret_bool (by rw [← HR.out]; exact (nw_no1 xs a).symm), blwT⟩
theorem bit_smallU : ∀ s : Nat, s < 256 → ∀ i : Nat, i < 8 → (bits BinOp.and IntKind.u64 ((s : Int) / 2 ^ i) 1 == 0) = !bit s i := by decide +kernel
set_option maxRecDepth 100000 in
set_option maxHeartbeats 4000000 in
theorem groups_any (n : Nat) (rs : List Res) (s : Nat) (v : Value) (w : World) (h : NwV w v ⟨n, rs⟩) (hok : NwOk n rs) (hs : s < 256) :
    Calls Tryz.prog 117 #[v, .int .u64 (s : Int)] w fun e w' => ∃ v', e = .returned v' ∧ BldI w' w.heap.size w'.heap.size v' (labL n (selF (edg rs) (bit s) rs.length)) ∧ Below w.heap.size w w' := by
  have HI := Lib.hid (fun k : Nat => show iota (k + 1) = iota k ++ [(k : Int)] by simp [iota, List.range_succ])
  have HL := Lib.hid (fun k : Nat => length_iota k)
  have HIN := Lib.hid (fun i hi => bit_smallU s hs i hi)
  have HOK := Lib.hid hok
  obtain ⟨hn6, hr8, _⟩ := hok
  obtain ⟨sv, rfl, hR⟩ := h
  have HR := Lib.hid hR
  obtain ⟨a, c, rfl⟩ := hR.len
  clear hR
  go_enter Tryz.func117, Tryz.ntmps117
  go_wp2
  go_loopw [5, 15] (fun u i wr => ∃ (k hi : Nat), k ≤ n ∧ i = .int .i64 (k : Int) ∧ Hid (BldI wr (w.heap.size + 1) hi u (iota k)) ∧ w.heap.size + 1 < hi ∧ Blk wr w.heap.size #[.int .i64 (n : Int), .slice a rs.length c] 55 ∧ Below w.heap.size w wr) (fun _ i _ => n - (intOf i).toNat)
  case atStart =>
    refine ⟨0, w.heap.size + 1 + 1, Nat.zero_le _, rfl, Lib.hid ?_, by omega, blkT, blwT⟩
    have hB : Blk ((w.alloc (.cells #[.int .i64 (n : Int), .slice a rs.length c] 55)).alloc (.cells #[] 2)) (w.heap.size + 1) #[] 2 := Blk.new _ (by simp)
    exact BldI.lit (zs := []) hB rfl (by simp) (Nat.le_refl _) (by omega) (by simp)
  case round =>
    obtain ⟨k, hi, hk, rfl, HB, hhi, kA, hb⟩ := hrel
    obtain ⟨a', c', rfl⟩ := HB.out.sized
    rw [HL.out k] at HB ⊢
    have qA := kA.cell
    have lA := kA.lt
    have hIs := HB.out.1
    have hlk := HL.out k
    have HLK := Lib.hid hlk
    by_cases hlt : k < n
    · have HX := Lib.hid (HI.out k)
      have i1 : (k : Int) < (n : Int) := by omega
      obtain ⟨Z, hZ⟩ : ∃ Z, iota k = Z := ⟨_, rfl⟩
      rw [hZ] at HB HLK HX
      have hzl : Z.length + 1 ≤ 2000 := by rw [HLK.out]; omega
      clear hZ hlk
      go_wp2_with (refine list_pushI (by rfl) _ _ (by rfl) (w.heap.size + 1) hi (.slice a' k c') Z [(k : Int)] (by rfl) (HB.out.by blwT) wr.heap.size 1 #[.int .i64 (k : Int)] (by rfl) (by rfl) (by omega) (Blk.new _ rfl) (by rfl) (by omega) (by omega) ?_; intro a5 c5 w5 hB5 hw5; have HB5 := Lib.hid hB5; rw [HLK.out]; clear hB5)
      have hsz := hw5.size
      simp only [World.size_alloc] at hsz
      refine ⟨⟨k + 1, w5.heap.size, by omega, by go_num, Lib.hid ?_, by omega, hw5.blk (kA.past _) (by omega), hw5.below (below_al hb _) (by omega)⟩, by simp [intOf]; omega⟩
      rw [HX.out]
      have := HB5.out
      rw [HLK.out] at this
      exact this
    · obtain rfl : k = n := by omega
      have i1 : ¬ (k : Int) < (k : Int) := by omega
      have HB2 : Hid (BldI wr (w.heap.size + 1) hi (.slice a' k c') (labL k (selF (edg rs) (bit s) 0))) := HB
      clear HB hlk HLK
      go_wp2
      obtain ⟨wo, rfl⟩ : ∃ wo, wo = wr := ⟨_, rfl⟩
      go_loopw [26] (fun i wr' => ∃ (m : Nat), m ≤ rs.length ∧ i = .int .i64 (m : Int) ∧ Hid (BldI wr' (w.heap.size + 1) hi (.slice a' k c') (labL k (selF (edg rs) (bit s) m))) ∧ Blk wr' w.heap.size #[.int .i64 (k : Int), .slice a rs.length c] 55 ∧ Below w.heap.size w wr') (fun i _ => rs.length - (intOf i).toNat)
      case atStart => exact ⟨0, Nat.zero_le _, rfl, HB2, kA, hb⟩
      case round =>
        clear HB2 kA hb qA lA hIs
        obtain ⟨m, hm, rfl, HB, kA, hb⟩ := hrel
        have qA := kA.cell
        have lA := kA.lt
        have hIs := HB.out.1
        by_cases hlt2 : m < rs.length
        · obtain ⟨x, hx⟩ : ∃ x, rs[m]? = some x := ⟨_, List.getElem?_eq_getElem hlt2⟩
          obtain ⟨p, q, ep, eq, hp, hq, hE⟩ := HOK.out.at hx
          rcases HR.out with ⟨_, _, _, h2⟩ | ⟨bb, off, cap, he, h2, h3, h4⟩
          · rw [h2] at hlt2; simp at hlt2
          obtain ⟨rfl, rfl⟩ : a = some ⟨bb, off, none⟩ ∧ c = cap := by simpa using he
          obtain ⟨d0, d1, _, _⟩ := (h4 m x hx).by hb
          rw [ep] at d0
          rw [eq] at d1
          obtain ⟨L, hLe⟩ : ∃ L, selF (edg rs) (bit s) m = L := ⟨_, rfl⟩
          rw [hLe] at HB
          have HLE := Lib.hid hLe
          have HE := Lib.hid hE
          obtain ⟨G, cap', cs, hv, hG, hBk, hcell⟩ := HB.out.blk (by rw [length_labL]; omega)
          rw [length_labL] at hv
          obtain ⟨rfl, rfl⟩ : a' = some ⟨G, 0, none⟩ ∧ c' = cap' := by simpa using hv
          have cp := hcell p _ (labL_get L hp)
          have cq := hcell q _ (labL_get L hq)
          have HC := Lib.hid hcell
          have hb6 : bit s m = true ∨ bit s m = false := by cases bit s m <;> simp
          have j1 : (0 : Int) ≤ (m : Int) := by omega
          have j2 : (m : Int) < (rs.length : Int) := by omega
          have j3 : (0 : Int) ≤ (p : Int) := by omega
          have j4 : (p : Int) < (k : Int) := by omega
          have j5 : (0 : Int) ≤ (q : Int) := by omega
          have j6 : (q : Int) < (k : Int) := by omega
          have HIm := HIN.out m (by omega)
          have lG := hBk.lt
          have hw1 : IntKind.u64.wrap (m : Int) = (m : Int) := by simp [IntKind.wrap, IntKind.bits, IntKind.signed]; omega
          have d0' := d0
          obtain ⟨_, _, d2, d3⟩ := (h4 m x hx).by hb
          obtain ⟨xn, xd, hxn, hxd⟩ : ∃ xn xd, x.num = xn ∧ x.den = xd := ⟨_, _, rfl, rfl⟩
          rw [hxn] at d2
          rw [hxd] at d3
          clear hLe hE h4 he hx hv hcell hBk ep eq d0' hxn hxd
          obtain ⟨y, hy⟩ : ∃ y, L p = y := ⟨_, rfl⟩
          obtain ⟨z, hz⟩ : ∃ z, L q = z := ⟨_, rfl⟩
          rw [hy] at cp
          rw [hz] at cq
          have HY := Lib.hid hy
          have HZ := Lib.hid hz
          clear hy hz
          rcases hb6 with hbt | hbf
          · rw [hbt] at HIm
            have HBT := Lib.hid hbt
            clear hbt
            by_cases hyz : y = z
            · subst hyz
              have HST := fun w' (hb' : Below wr.heap.size wr w') => (show BldI w' (w.heap.size + 1) hi (.slice (some ⟨G, 0, none⟩) k c') (labL k (selF (edg rs) (bit s) (m + 1))) from by
                rw [selF_on HBT.out, HE.out, HLE.out, mrgF_same (by rw [HY.out, HZ.out])]
                exact BldI.by hb' HB.out)
              have HS2 := Lib.hid HST
              clear HST
              go_wp2
              go_quiet (fail)
              go_wp2
              exact ⟨⟨m + 1, by omega, by go_num, Lib.hid (HS2.out _ blwT), blkT, blwT⟩, by simp [intOf]; omega⟩
            · have hyzb : ((y : Int) == (z : Int)) = false := by simp; omega
              have HNE := Lib.hid hyz
              clear hyz
              rcases Nat.lt_or_gt_of_ne HNE.out with hyl | hyl
              · have y1 : ¬ z < y := by omega
                have y2 : y < z := by omega
                have y3 : (y : Int) < (z : Int) := by omega
                have y4 : ¬ (z : Int) < (y : Int) := by omega
                go_wp2
                go_quiet (fail)
                go_wp2
                go_quiet (fail)
                go_wp2
                obtain ⟨wo2, rfl⟩ : ∃ wo, wo = wr := ⟨_, rfl⟩
                go_loopw [74] (fun i wr2 => ∃ (j : Nat), j ≤ k ∧ i = .int .i64 (j : Int) ∧ Hid (BldI wr2 (w.heap.size + 1) hi (.slice (some ⟨G, 0, none⟩) k c') (labL k (upF (mrgF L p q) L j))) ∧ Blk wr2 w.heap.size #[.int .i64 (k : Int), .slice (some ⟨bb, off, none⟩) rs.length c] 55 ∧ Below w.heap.size w wr2) (fun i _ => k - (intOf i).toNat)
                case atStart => exact ⟨0, Nat.zero_le _, rfl, Lib.hid (by rw [upF_zero]; exact BldI.by blwT HB.out), blkT, blwT⟩
                case round =>
                  clear HB kA hb qA lA hIs HC cp cq d0 d1 d2 d3 lG
                  obtain ⟨j, hj, rfl, HB, kA, hb⟩ := hrel
                  have qA := kA.cell
                  have lA := kA.lt
                  have hIs := HB.out.1
                  by_cases hlt3 : j < k
                  · obtain ⟨G2, cap2, cs2, hv2, hG2, hBk2, hcell2⟩ := HB.out.blk (by rw [length_labL]; omega)
                    rw [length_labL] at hv2
                    obtain ⟨rfl, rfl⟩ : G = G2 ∧ c' = cap2 := by simpa using hv2
                    have cj := hcell2 j _ (labL_get _ hlt3)
                    rw [upF_at] at cj
                    have fG := hBk2.free
                    have lG := hBk2.lt
                    obtain ⟨x, hx⟩ : ∃ x, L j = x := ⟨_, rfl⟩
                    rw [hx] at cj
                    have HX := Lib.hid hx
                    have l1 : (0 : Int) ≤ (j : Int) := by omega
                    have l2 : (j : Int) < (k : Int) := by omega
                    have hGA : w.heap.size < G := by omega
                    clear hv2 hcell2 hBk2 hx
                    by_cases hm2 : x = z
                    · have HST := Lib.hid (show BldI (wr.setCell ⟨G, j, none⟩ (.int .i64 (y : Int))) (w.heap.size + 1) hi (.slice (some ⟨G, 0, none⟩) k c') (labL k (upF (mrgF L p q) L (j + 1))) from by
                        have e := upF_step (f := mrgF L p q) (g := L) hlt3 (y := y) (by unfold mrgF; rw [HX.out, HY.out, HZ.out, if_pos (by omega)]; omega)
                        rw [← e]
                        exact HB.out.setAt j _)
                      have hmb : ((x : Int) == (z : Int)) = true := by simp; omega
                      clear hm2
                      go_wp2
                      exact ⟨⟨j + 1, by omega, by go_num, HST, kA.apart _ _ _ (by omega), blwT⟩, by simp [intOf]; omega⟩
                    · have hmb : ((x : Int) == (z : Int)) = false := by simp; omega
                      have HST := Lib.hid (show BldI wr (w.heap.size + 1) hi (.slice (some ⟨G, 0, none⟩) k c') (labL k (upF (mrgF L p q) L (j + 1))) from by
                        rw [upF_same (by unfold mrgF; rw [HX.out, HY.out, HZ.out, if_neg (by omega)])]
                        exact HB.out)
                      clear hm2
                      go_wp2
                      exact ⟨⟨j + 1, by omega, by go_num, HST, kA, hb⟩, by simp [intOf]; omega⟩
                  · obtain rfl : j = k := by omega
                    have l2 : ¬ (j : Int) < (j : Int) := by omega
                    have HST := Lib.hid (show BldI wr (w.heap.size + 1) hi (.slice (some ⟨G, 0, none⟩) j c') (labL j (selF (edg rs) (bit s) (m + 1))) from by
                      rw [selF_on HBT.out, HE.out, HLE.out]
                      have := HB.out
                      rwa [upF_all] at this)
                    go_wp2
                    exact ⟨⟨m + 1, by omega, by go_num, HST, kA, hb⟩, by simp [intOf]; omega⟩
              · have y1 : ¬ y < z := by omega
                have y2 : z < y := by omega
                have y3 : (z : Int) < (y : Int) := by omega
                have y4 : ¬ (y : Int) < (z : Int) := by omega
                go_wp2
                go_quiet (fail)
                go_wp2
                go_quiet (fail)
                go_wp2
                obtain ⟨wo2, rfl⟩ : ∃ wo, wo = wr := ⟨_, rfl⟩
                go_loopw [74] (fun i wr2 => ∃ (j : Nat), j ≤ k ∧ i = .int .i64 (j : Int) ∧ Hid (BldI wr2 (w.heap.size + 1) hi (.slice (some ⟨G, 0, none⟩) k c') (labL k (upF (mrgF L p q) L j))) ∧ Blk wr2 w.heap.size #[.int .i64 (k : Int), .slice (some ⟨bb, off, none⟩) rs.length c] 55 ∧ Below w.heap.size w wr2) (fun i _ => k - (intOf i).toNat)
                case atStart => exact ⟨0, Nat.zero_le _, rfl, Lib.hid (by rw [upF_zero]; exact BldI.by blwT HB.out), blkT, blwT⟩
                case round =>
                  clear HB kA hb qA lA hIs HC cp cq d0 d1 d2 d3 lG
                  obtain ⟨j, hj, rfl, HB, kA, hb⟩ := hrel
                  have qA := kA.cell
                  have lA := kA.lt
                  have hIs := HB.out.1
                  by_cases hlt3 : j < k
                  · obtain ⟨G2, cap2, cs2, hv2, hG2, hBk2, hcell2⟩ := HB.out.blk (by rw [length_labL]; omega)
                    rw [length_labL] at hv2
                    obtain ⟨rfl, rfl⟩ : G = G2 ∧ c' = cap2 := by simpa using hv2
                    have cj := hcell2 j _ (labL_get _ hlt3)
                    rw [upF_at] at cj
                    have fG := hBk2.free
                    have lG := hBk2.lt
                    obtain ⟨x, hx⟩ : ∃ x, L j = x := ⟨_, rfl⟩
                    rw [hx] at cj
                    have HX := Lib.hid hx
                    have l1 : (0 : Int) ≤ (j : Int) := by omega
                    have l2 : (j : Int) < (k : Int) := by omega
                    have hGA : w.heap.size < G := by omega
                    clear hv2 hcell2 hBk2 hx
                    by_cases hm2 : x = y
                    · have HST := Lib.hid (show BldI (wr.setCell ⟨G, j, none⟩ (.int .i64 (z : Int))) (w.heap.size + 1) hi (.slice (some ⟨G, 0, none⟩) k c') (labL k (upF (mrgF L p q) L (j + 1))) from by
                        have e := upF_step (f := mrgF L p q) (g := L) hlt3 (y := z) (by unfold mrgF; rw [HX.out, HY.out, HZ.out, if_pos (by omega)]; omega)
                        rw [← e]
                        exact HB.out.setAt j _)
                      have hmb : ((x : Int) == (y : Int)) = true := by simp; omega
                      clear hm2
                      go_wp2
                      exact ⟨⟨j + 1, by omega, by go_num, HST, kA.apart _ _ _ (by omega), blwT⟩, by simp [intOf]; omega⟩
                    · have hmb : ((x : Int) == (y : Int)) = false := by simp; omega
                      have HST := Lib.hid (show BldI wr (w.heap.size + 1) hi (.slice (some ⟨G, 0, none⟩) k c') (labL k (upF (mrgF L p q) L (j + 1))) from by
                        rw [upF_same (by unfold mrgF; rw [HX.out, HY.out, HZ.out, if_neg (by omega)])]
                        exact HB.out)
                      clear hm2
                      go_wp2
                      exact ⟨⟨j + 1, by omega, by go_num, HST, kA, hb⟩, by simp [intOf]; omega⟩
                  · obtain rfl : j = k := by omega
                    have l2 : ¬ (j : Int) < (j : Int) := by omega
                    have HST := Lib.hid (show BldI wr (w.heap.size + 1) hi (.slice (some ⟨G, 0, none⟩) j c') (labL j (selF (edg rs) (bit s) (m + 1))) from by
                      rw [selF_on HBT.out, HE.out, HLE.out]
                      have := HB.out
                      rwa [upF_all] at this)
                    go_wp2
                    exact ⟨⟨m + 1, by omega, by go_num, HST, kA, hb⟩, by simp [intOf]; omega⟩
          · rw [hbf] at HIm
            have HST := fun w' (hb' : Below wr.heap.size wr w') => (show BldI w' (w.heap.size + 1) hi (.slice (some ⟨G, 0, none⟩) k c') (labL k (selF (edg rs) (bit s) (m + 1))) from by
              rw [selF_off (by rw [hbf]; decide), HLE.out]
              exact BldI.by hb' HB.out)
            have HS2 := Lib.hid HST
            clear HST hbf
            go_wp2
            go_quiet (fail)
            go_wp2
            exact ⟨⟨m + 1, by omega, by go_num, Lib.hid (HS2.out _ blwT), blkT, blwT⟩, by simp [intOf]; omega⟩
        · obtain rfl : m = rs.length := by omega
          have i2 : ¬ (rs.length : Int) < (rs.length : Int) := by omega
          have hs := HB.out
          have HB2 := Lib.hid (show BldI wr w.heap.size wr.heap.size (.slice a' k c') (labL k (selF (edg rs) (bit s) rs.length)) from hs.wide (by omega) hIs (Nat.le_refl _))
          clear hs HB
          go_wp2
          go_ret
          exact ⟨_, rfl, HB2.out, hb⟩
end Go.Proofs.YtacbdmngcdhgoaaGreat
