/- l26Weight, l26Roots, l26Part. -/
import Derived.Test.YtjolkdckhmmenaaTrees
namespace Go.Proofs.Ytjolkdckhmmenaa
open Go.RowKit
set_option linter.unusedVariables false
set_option linter.unusedSimpArgs false

theorem bit_all {m i : Nat} (h : i < m) : bit (2 ^ m - 1) i = true := by
  unfold bit; rw [Nat.testBit_two_pow_sub_one]; simpa using h
theorem sel_all (E : Nat → Nat × Nat) (m : Nat) : selF E (bit (2 ^ m - 1)) m = selF E (fun _ => true) m := selF_congr (fun i hi => bit_all hi)
theorem pow_small {m : Nat} (h : m ≤ 8) : 1 ≤ 2 ^ m ∧ 2 ^ m ≤ 256 := by
  have := Nat.pow_le_pow_right (show 0 < 2 by omega) h
  have := Nat.pow_le_pow_right (show 0 < 2 by omega) (Nat.zero_le m)
  omega

set_option maxRecDepth 100000 in
set_option maxHeartbeats 4000000 in
theorem l26Weight_any (n : Nat) (rs : List Res) (s : Nat) (v : Value) (w : World) (h : NwV w v ⟨n, rs⟩) (hr8 : rs.length ≤ 8) (hs : s < 256) (hp : ∀ i, i < rs.length → 1 ≤ rnm rs i ∧ 1 ≤ rdn rs i) (hm : mxF (rnm rs) (rdn rs) rs.length ≤ 10000000000000000) :
    Calls Try.prog 42 #[v, .int .i64 (s : Int)] w fun e w' => e = .returned (.tuple #[.int .i64 (wtF (rnm rs) (rdn rs) (bit s) rs.length), .int .i64 (cntF (bit s) rs.length : Nat)]) ∧ Below w.heap.size w w' := by
  have HIN := Lib.hid (fun i hi w => l26In_any s i hs hi w)
  have HP := Lib.hid hp
  have HM := Lib.hid (fun (k : Nat) (hk : k ≤ rs.length) => show 1 ≤ wtF (rnm rs) (rdn rs) (bit s) k ∧ wtF (rnm rs) (rdn rs) (bit s) k ≤ 10000000000000000 from by
    have a := wtF_bd (nm := rnm rs) (dn := rdn rs) (bit s) (k := k) (fun i hi => hp i (by omega))
    have b := mxF_mono (nm := rnm rs) (dn := rdn rs) (k := k) (m := rs.length) hp hk
    omega)
  obtain ⟨sv, rfl, hR⟩ := h
  have HR := Lib.hid hR
  obtain ⟨a, c, rfl⟩ := hR.len
  clear hR hp hm
  go_enter Try.func42, Try.ntmps42
  go_wp2
  go_loopw [6, 7, 8] (fun u x i wr => ∃ (k : Nat), k ≤ rs.length ∧ i = .int .i64 (k : Int) ∧ u = .int .i64 (wtF (rnm rs) (rdn rs) (bit s) k) ∧ x = .int .i64 (cntF (bit s) k : Nat) ∧ Blk wr w.heap.size #[.int .i64 (n : Int), .slice a rs.length c] 26 ∧ Below w.heap.size w wr) (fun _ _ i _ => rs.length - (intOf i).toNat)
  case atStart => exact ⟨0, Nat.zero_le _, rfl, rfl, rfl, (by ((repeat (first | (with_reducible assumption) | (with_reducible refine Blk.drewN ?_ _) | (with_reducible refine Blk.drew ?_) | ((with_reducible refine Blk.new _ ?_); focus (first | omega | (simp; done) | (simp; omega))) | (with_reducible refine Blk.past ?_ _) | ((with_reducible refine Blk.apart ?_ _ _ _ ?_); rotate_left; focus (first | omega | (simp; done) | (simp; omega))) | (with_reducible refine Blk.by (by assumption) ?_))); done)), (by ((repeat (first | (with_reducible exact Below.refl _ _) | (with_reducible refine below_drewN ?_ _) | (with_reducible refine Below.drew ?_) | (with_reducible refine below_al ?_ _) | (with_reducible refine below_on (by assumption) ?_) | ((with_reducible refine Below.setCell ?_ ?_ _); rotate_left; focus (first | omega | (simp; done) | (simp; omega))) | (with_reducible assumption))); done))⟩
  case round =>
    obtain ⟨k, hk, rfl, rfl, rfl, kA, hb⟩ := hrel
    have qA := kA.cell
    have lA := kA.lt
    have hcl := cntF_le (bit s) k
    obtain ⟨hw1, hw2⟩ := HM.out k hk
    by_cases hlt : k < rs.length
    · obtain ⟨x, hx⟩ : ∃ x, rs[k]? = some x := ⟨_, List.getElem?_eq_getElem hlt⟩
      rcases HR.out with ⟨_, _, _, h2⟩ | ⟨bb, off, cap, he, h2, h3, h4⟩
      · rw [h2] at hlt; simp at hlt
      obtain ⟨rfl, rfl⟩ : a = some ⟨bb, off, none⟩ ∧ c = cap := by simpa using he
      obtain ⟨_, _, d2, d3⟩ := (h4 k x hx).by hb
      obtain ⟨hv1, hv2⟩ := HM.out (k + 1) hlt
      have hn := rnm_at hx
      have hd := rdn_at hx
      have HIm := Lib.hid (fun w => HIN.out k (by omega) w)
      have j1 : (0 : Int) ≤ (k : Int) := by omega
      have j2 : (k : Int) < (rs.length : Int) := by omega
      cases hbt : bit s k with
      | true =>
        have e1 : wtF (rnm rs) (rdn rs) (bit s) (k + 1) = wtF (rnm rs) (rdn rs) (bit s) k * x.den := by simp only [wtF]; rw [if_pos hbt, hd]
        have e2 : cntF (bit s) (k + 1) = cntF (bit s) k + 1 := by simp only [cntF]; rw [if_pos hbt]
        rw [e1] at hv1 hv2
        have HE1 := Lib.hid e1
        have HE2 := Lib.hid e2
        rw [hbt] at HIm
        clear e1 e2 hbt hn hd h4 he hx
        generalize wtF (rnm rs) (rdn rs) (bit s) k = W at *
        generalize cntF (bit s) k = C at *
        generalize x.den = D at *
        have hwr : IntKind.i64.wrap (W * D) = W * D := by simp [IntKind.wrap, IntKind.bits, IntKind.signed]; omega
        go_wp2_with (go_at_call 45; refine (HIm.out _).mono ?_; rintro e w' ⟨rfl, rfl⟩)
        exact ⟨⟨k + 1, by omega, by go_num, by rw [HE1.out], by rw [HE2.out]; go_num, kA, hb⟩, by simp [intOf]; omega⟩
      | false =>
        have e1 : wtF (rnm rs) (rdn rs) (bit s) (k + 1) = wtF (rnm rs) (rdn rs) (bit s) k * x.num := by simp only [wtF]; rw [if_neg (by rw [hbt]; decide), hn]
        have e2 : cntF (bit s) (k + 1) = cntF (bit s) k := by simp only [cntF]; rw [if_neg (by rw [hbt]; decide)]; omega
        rw [e1] at hv1 hv2
        have HE1 := Lib.hid e1
        have HE2 := Lib.hid e2
        rw [hbt] at HIm
        clear e1 e2 hbt hn hd h4 he hx
        generalize wtF (rnm rs) (rdn rs) (bit s) k = W at *
        generalize cntF (bit s) k = C at *
        generalize x.num = D at *
        have hwr : IntKind.i64.wrap (W * D) = W * D := by simp [IntKind.wrap, IntKind.bits, IntKind.signed]; omega
        go_wp2_with (go_at_call 45; refine (HIm.out _).mono ?_; rintro e w' ⟨rfl, rfl⟩)
        exact ⟨⟨k + 1, by omega, by go_num, by rw [HE1.out], by rw [HE2.out], kA, hb⟩, by simp [intOf]; omega⟩
    · obtain rfl : k = rs.length := by omega
      have i2 : ¬ (rs.length : Int) < (rs.length : Int) := by omega
      go_wp2
      exact bodyPost_ret (v := .tuple #[.int .i64 (wtF (rnm rs) (rdn rs) (bit s) rs.length), .int .i64 (cntF (bit s) rs.length : Nat)]) (by simp [results, Try.results42, go_sem]) rfl ⟨rfl, hb⟩

set_option maxRecDepth 100000 in
set_option maxHeartbeats 4000000 in
theorem l26Roots_any (n : Nat) (f : Nat → Nat) (v : Value) (w : World) (h : IntSl w v (labL n f)) (hn : n ≤ 6) (hf : ∀ i, i < n → f i < n) :
    Calls Try.prog 41 #[v] w fun e w' => e = .returned (.int .i64 (rootsF f n : Nat)) ∧ w = w' := by
  have HR := Lib.hid h
  obtain ⟨a, c, rfl⟩ := h.len
  rw [length_labL] at HR ⊢
  clear h
  go_enter Try.func41, Try.ntmps41
  go_wp2
  go_loopw [3, 4] (fun x i wr => ∃ (k : Nat), k ≤ n ∧ i = .int .i64 (k : Int) ∧ x = .int .i64 (rootsF f k : Nat) ∧ wr = w) (fun _ i _ => n - (intOf i).toNat)
  case atStart => exact ⟨0, Nat.zero_le _, rfl, rfl, rfl⟩
  case round =>
    obtain ⟨k, hk, rfl, rfl, rfl⟩ := hrel
    have hcl := rootsF_le f k
    by_cases hlt : k < n
    · rcases HR.out with ⟨_, _, _, h2⟩ | ⟨bb, off, cap, he, h2, h3, h4⟩
      · have := congrArg List.length h2; rw [length_labL] at this; simp at this; omega
      rw [length_labL] at he
      obtain ⟨rfl, rfl⟩ : a = some ⟨bb, off, none⟩ ∧ c = cap := by simpa using he
      have d := h4 k _ (labL_get f hlt)
      have hfk := hf k hlt
      have j1 : (0 : Int) ≤ (k : Int) := by omega
      have j2 : (k : Int) < (n : Int) := by omega
      by_cases e : f k = k
      · have e2 : rootsF f (k + 1) = rootsF f k + 1 := by simp only [rootsF]; rw [if_pos e]
        have HE := Lib.hid e2
        rw [e] at d
        generalize rootsF f k = R at *
        clear e e2 h4 he
        go_wp2
        exact ⟨⟨k + 1, by omega, by go_num, by rw [HE.out]; go_num, (by first | rfl | trivial)⟩, by simp [intOf]; omega⟩
      · have e2 : rootsF f (k + 1) = rootsF f k := by simp only [rootsF]; rw [if_neg e]; omega
        have HE := Lib.hid e2
        have hne : (((f k : Nat) : Int) == (k : Int)) = false := by simp; omega
        generalize f k = y at *
        generalize rootsF f k = R at *
        clear e e2 h4 he
        go_wp2
        exact ⟨⟨k + 1, by omega, by go_num, by rw [HE.out], (by first | rfl | trivial)⟩, by simp [intOf]; omega⟩
    · obtain rfl : k = n := by omega
      have i2 : ¬ (k : Int) < (k : Int) := by omega
      go_wp2
      go_ret
      exact ⟨rfl, rfl⟩

theorem full_set : ∀ m : Nat, m < 9 → wrap64 (wrap64 (2 ^ m) - 1) = ((2 ^ m - 1 : Nat) : Int) := by decide +kernel
theorem full_pow : ∀ m : Nat, m < 9 → wrap64 (2 ^ m) = ((2 ^ m : Nat) : Int) := by decide +kernel
def partR' (rs : List Res) (b k : Nat) : List Res := (rs.take k).filter (fun r => decide (allL rs r.a.toNat = allL rs b))
theorem part_take {rs : List Res} {b k : Nat} {x : Res} (h : rs[k]? = some x) : partR' rs b (k + 1) = if allL rs x.a.toNat = allL rs b then partR' rs b k ++ [x] else partR' rs b k := by
  unfold partR'
  rw [List.take_add_one, h, List.filter_append]
  by_cases e : allL rs x.a.toNat = allL rs b
  · rw [if_pos e]; simp [e]
  · rw [if_neg e]; simp [e]

set_option maxRecDepth 100000 in
set_option maxHeartbeats 8000000 in
theorem l26Part_any (n : Nat) (rs : List Res) (b : Nat) (v : Value) (w : World) (h : NwV w v ⟨n, rs⟩) (hok : NwOk n rs) (hb0 : b < n) :
    Calls Try.prog 31 #[v, .int .i64 (b : Int)] w fun e w' => ∃ v', e = .returned v' ∧ OwnNw w' w.heap.size w'.heap.size v' ⟨n, partR rs b⟩ ∧ Below w.heap.size w w' := by
  have hpw := pow_small hok.2.1
  have HT := fun (z : Int) (hz : z = ((2 ^ rs.length - 1 : Nat) : Int)) v w h => by have q := l26Trees_any n rs (2 ^ rs.length - 1) v w h hok (by omega); rw [sel_all, ← hz] at q; exact q
  replace HT := Lib.hid HT
  have HOK := Lib.hid hok
  obtain ⟨hn6, hr8, _⟩ := hok
  have HV := Lib.hid h
  obtain ⟨sv, rfl, hR⟩ := h
  have HR := Lib.hid hR
  obtain ⟨a, c, rfl⟩ := hR.len
  clear hR hpw
  go_enter Try.func31, Try.ntmps31
  go_wp2_with fail
  refine (HT.out _ (full_set rs.length (by omega)) _ _ (HV.out.by (by ((repeat (first | (with_reducible exact Below.refl _ _) | (with_reducible refine below_drewN ?_ _) | (with_reducible refine Below.drew ?_) | (with_reducible refine below_al ?_ _) | (with_reducible refine below_on (by assumption) ?_) | ((with_reducible refine Below.setCell ?_ ?_ _); rotate_left; focus (first | omega | (simp; done) | (simp; omega))) | (with_reducible assumption))); done)))).mono ?_
  rintro e w1 ⟨v1, rfl, hB1, hb1⟩
  have kA : Blk w1 w.heap.size #[.int .i64 (n : Int), .slice a rs.length c] 26 := (by ((repeat (first | (with_reducible assumption) | (with_reducible refine Blk.drewN ?_ _) | (with_reducible refine Blk.drew ?_) | ((with_reducible refine Blk.new _ ?_); focus (first | omega | (simp; done) | (simp; omega))) | (with_reducible refine Blk.past ?_ _) | ((with_reducible refine Blk.apart ?_ _ _ _ ?_); rotate_left; focus (first | omega | (simp; done) | (simp; omega))) | (with_reducible refine Blk.by (by assumption) ?_))); done))
  have kR : Blk w1 (w.heap.size + 1) #[.int .i64 0, .slice none 0 0] 26 := (by ((repeat (first | (with_reducible assumption) | (with_reducible refine Blk.drewN ?_ _) | (with_reducible refine Blk.drew ?_) | ((with_reducible refine Blk.new _ ?_); focus (first | omega | (simp; done) | (simp; omega))) | (with_reducible refine Blk.past ?_ _) | ((with_reducible refine Blk.apart ?_ _ _ _ ?_); rotate_left; focus (first | omega | (simp; done) | (simp; omega))) | (with_reducible refine Blk.by (by assumption) ?_))); done))
  have hW : Below w.heap.size w w1 := (by ((repeat (first | (with_reducible exact Below.refl _ _) | (with_reducible refine below_drewN ?_ _) | (with_reducible refine Below.drew ?_) | (with_reducible refine below_al ?_ _) | (with_reducible refine below_on (by assumption) ?_) | ((with_reducible refine Below.setCell ?_ ?_ _); rotate_left; focus (first | omega | (simp; done) | (simp; omega))) | (with_reducible assumption))); done))
  have hs1 := hb1.size
  simp only [World.size_alloc] at hs1
  obtain ⟨a1, c1, rfl⟩ := hB1.sized
  rw [length_labL] at hB1 ⊢
  have HB1 := Lib.hid hB1.own.sl
  have qA := kA.cell
  have lA := kA.lt
  obtain ⟨T, hT⟩ : ∃ T, w1.heap.size = T := ⟨_, rfl⟩
  have hTT := Nat.le_of_eq hT
  have hTT2 := Nat.le_of_eq hT.symm
  have HL := Lib.hid hT
  clear hB1 hb1 HT HV hT
  go_wp2
  rw [HL.out]
  go_loopw [7] (fun i wr => ∃ (k hi : Nat) (v' : Value), k ≤ rs.length ∧ i = .int .i64 (k : Int) ∧ Hid (BldRes wr (T + 1) hi v' (partR' rs b k)) ∧ Blk wr T #[.int .i64 (n : Int), v'] 26 ∧ T + 1 ≤ hi ∧ Blk wr w.heap.size #[.int .i64 (n : Int), .slice a rs.length c] 26 ∧ Blk wr (w.heap.size + 1) #[.int .i64 0, .slice none 0 0] 26 ∧ Below w1.heap.size w1 wr ∧ Below w.heap.size w wr) (fun i _ => rs.length - (intOf i).toNat)
  case atStart =>
    refine ⟨0, T + 1, .slice none 0 0, Nat.zero_le _, rfl, Lib.hid ?_, ?_, Nat.le_refl _, (by ((repeat (first | (with_reducible assumption) | (with_reducible refine Blk.drewN ?_ _) | (with_reducible refine Blk.drew ?_) | ((with_reducible refine Blk.new _ ?_); focus (first | omega | (simp; done) | (simp; omega))) | (with_reducible refine Blk.past ?_ _) | ((with_reducible refine Blk.apart ?_ _ _ _ ?_); rotate_left; focus (first | omega | (simp; done) | (simp; omega))) | (with_reducible refine Blk.by (by assumption) ?_))); done)), (by ((repeat (first | (with_reducible assumption) | (with_reducible refine Blk.drewN ?_ _) | (with_reducible refine Blk.drew ?_) | ((with_reducible refine Blk.new _ ?_); focus (first | omega | (simp; done) | (simp; omega))) | (with_reducible refine Blk.past ?_ _) | ((with_reducible refine Blk.apart ?_ _ _ _ ?_); rotate_left; focus (first | omega | (simp; done) | (simp; omega))) | (with_reducible refine Blk.by (by assumption) ?_))); done)), (by repeat (first | (with_reducible exact Below.refl _ _) | (with_reducible refine below_al ?_ _))), (by ((repeat (first | (with_reducible exact Below.refl _ _) | (with_reducible refine below_drewN ?_ _) | (with_reducible refine Below.drew ?_) | (with_reducible refine below_al ?_ _) | (with_reducible refine below_on (by assumption) ?_) | ((with_reducible refine Below.setCell ?_ ?_ _); rotate_left; focus (first | omega | (simp; done) | (simp; omega))) | (with_reducible assumption))); done))⟩
    · have := BldRes.nil (w1.alloc (.cells #[.int .i64 (n : Int), .slice none 0 0] 26)) (T + 1)
      have e : (w1.alloc (.cells #[.int .i64 (n : Int), .slice none 0 0] 26)).heap.size = T + 1 := by simp; omega
      rw [e] at this
      first | exact this | exact BldRes.by (by first | exact Below.refl _ _ | ((repeat (first | (with_reducible exact Below.refl _ _) | (with_reducible refine below_drewN ?_ _) | (with_reducible refine Below.drew ?_) | (with_reducible refine below_al ?_ _) | (with_reducible refine below_on (by assumption) ?_) | ((with_reducible refine Below.setCell ?_ ?_ _); rotate_left; focus (first | omega | (simp; done) | (simp; omega))) | (with_reducible assumption))); done)) this
    · first | exact Blk.new _ HL.out.symm | ((repeat (first | (with_reducible assumption) | (with_reducible refine Blk.drewN ?_ _) | (with_reducible refine Blk.drew ?_) | ((with_reducible refine Blk.new _ ?_); focus (first | omega | (simp; done) | (simp; omega))) | (with_reducible refine Blk.past ?_ _) | ((with_reducible refine Blk.apart ?_ _ _ _ ?_); rotate_left; focus (first | omega | (simp; done) | (simp; omega))) | (with_reducible refine Blk.by (by assumption) ?_))); done)
  case round =>
    clear kA kR hW qA lA
    obtain ⟨k, hi, v', hk, rfl, HB, kO, hhi, kA, kR, HBW, hb⟩ := hrel
    have HL1 := Lib.hid (HB1.out.by HBW)
    have hzw := HBW.size
    obtain ⟨au, cu, rfl⟩ := HB.out.sized
    obtain ⟨L, hL⟩ : ∃ L, (partR' rs b k).length = L := ⟨_, rfl⟩
    have hLk : L ≤ k := by rw [← hL]; exact Nat.le_trans (List.length_filter_le _ _) (List.length_take_le _ _)
    have HLL := Lib.hid hL
    rw [hL] at HB kO
    clear hL
    have qA := kA.cell
    have lA := kA.lt
    have lO := kO.lt
    have hIs := HB.out.1
    by_cases hlt : k < rs.length
    · obtain ⟨x, hx⟩ : ∃ x, rs[k]? = some x := ⟨_, List.getElem?_eq_getElem hlt⟩
      obtain ⟨p, q, ep, eq, hp, hq, hE⟩ := HOK.out.at hx
      have HPT := Lib.hid (part_take (b := b) hx)
      rcases HR.out with ⟨_, _, _, h2⟩ | ⟨bb, off, cap, he, h2, h3, h4⟩
      · rw [h2] at hlt; simp at hlt
      obtain ⟨rfl, rfl⟩ : a = some ⟨bb, off, none⟩ ∧ c = cap := by simpa using he
      obtain ⟨g0, g1, g2, g3⟩ := h4 k x hx
      rw [ep] at g0
      rw [eq] at g1
      obtain ⟨d0, d1, d2, d3⟩ := (h4 k x hx).by hb
      rw [ep] at d0
      rw [eq] at d1
      rcases HL1.out with ⟨_, _, _, h2'⟩ | ⟨lb, lf, lc, le, _, _, l4⟩
      · have := congrArg List.length h2'; rw [length_labL] at this; simp at this; omega
      rw [length_labL] at le
      obtain ⟨rfl, rfl⟩ : a1 = some ⟨lb, lf, none⟩ ∧ c1 = lc := by simpa using le
      have e1 := l4 p _ (labL_get (allL rs) hp)
      have e2 := l4 b _ (labL_get (allL rs) hb0)
      have j1 : (0 : Int) ≤ (k : Int) := by omega
      have j2 : (k : Int) < (rs.length : Int) := by omega
      have j3 : (0 : Int) ≤ (p : Int) := by omega
      have j4 : (p : Int) < (n : Int) := by omega
      have j5 : (0 : Int) ≤ (b : Int) := by omega
      have j6 : (b : Int) < (n : Int) := by omega
      have HEP := Lib.hid (show x = ⟨p, q, x.num, x.den⟩ from by cases x; simp only at ep eq; subst ep eq; rfl)
      have HXA := Lib.hid (show x.a.toNat = p by omega)
      obtain ⟨X, hX⟩ : ∃ X, x.num = X := ⟨_, rfl⟩
      obtain ⟨Y, hY⟩ : ∃ Y, x.den = Y := ⟨_, rfl⟩
      rw [hX] at d2 g2 HEP
      rw [hY] at d3 g3 HEP
      clear h4 l4 he le hx ep eq hE hX hY
      by_cases hm : allL rs p = allL rs b
      · rw [HXA.out, if_pos hm] at HPT
        rw [hm] at e1
        have HM := Lib.hid hm
        clear hm
        go_wp2
        go_quiet (fail)
        go_wp2_with fail
        have kA' := kA.drewN nq
        have kR' := kR.drewN nq
        have kO' := kO.drewN nq
        have HB' := Lib.hid (HB.out.by (below_of_drewN wr nq))
        replace HBW := below_drewN HBW nq
        replace hzw := HBW.size
        have hb' := below_drewN hb nq
        have d0' := cell_by' (below_of_drewN wr nq) d0
        have d1' := cell_by' (below_of_drewN wr nq) d1
        have d2' := cell_by' (below_of_drewN wr nq) d2
        have d3' := cell_by' (below_of_drewN wr nq) d3
        have hIs' : hi ≤ (wr.drewN nq).heap.size := hIs
        clear HB HL1 kA kR kO hb d0 d1 d2 d3 qA lA lO hIs e1 e2
        generalize wr.drewN nq = wz at *
        have cO : wz.cell? ⟨T, 1, none⟩ = some (.slice au L cu) := kO'.cell 1
        refine wp_region_any (by kernel_rfl) (wpAny_of_E (S := (fun w' : World => (∀ o, w'.cell? ⟨w.heap.size, o, none⟩ = (#[.int .i64 (n : Int), .slice (some ⟨bb, off, none⟩) rs.length c] : Array Value)[o]?) ∧ w'.cell? ⟨T, 1, none⟩ = some (.slice au L cu) ∧ w'.cell? ⟨bb, off + k * 4, none⟩ = some (.int .i64 (p : Int)) ∧ w'.cell? ⟨bb, off + k * 4 + 1, none⟩ = some (.int .i64 (q : Int)) ∧ w'.cell? ⟨bb, off + k * 4 + 2, none⟩ = some (.int .i64 X) ∧ w'.cell? ⟨bb, off + k * 4 + 3, none⟩ = some (.int .i64 Y))) (l := 10) _ _ _ _ ?_)
        have hS : (fun w' : World => (∀ o, w'.cell? ⟨w.heap.size, o, none⟩ = (#[.int .i64 (n : Int), .slice (some ⟨bb, off, none⟩) rs.length c] : Array Value)[o]?) ∧ w'.cell? ⟨T, 1, none⟩ = some (.slice au L cu) ∧ w'.cell? ⟨bb, off + k * 4, none⟩ = some (.int .i64 (p : Int)) ∧ w'.cell? ⟨bb, off + k * 4 + 1, none⟩ = some (.int .i64 (q : Int)) ∧ w'.cell? ⟨bb, off + k * 4 + 2, none⟩ = some (.int .i64 X) ∧ w'.cell? ⟨bb, off + k * 4 + 3, none⟩ = some (.int .i64 Y)) { wz with drawn := wz.drawn + 1 } := ⟨kA'.cell, cO, d0', d1', d2', d3'⟩
        change wpAnyE _ _ _ _ _ _ _ _ _ wz.drew
        refine wpAnyE_take (i := 0) (v := ?_) rfl (by kernel_rfl) (fun _ _ _ h => h) (Or.inl ⟨by rfl, ?_⟩) hS ?_
        rotate_left
        · intro w hSw; (try dsimp only at hSw); go_simp; (try with_reducible rfl)
        try simp only [Act.put, List.setIfInBounds_toArray, List.set_cons_zero, List.set_cons_succ]
        refine wpAnyE_take (i := 1) (v := ?_) rfl (by kernel_rfl) (fun _ _ _ h => h) (Or.inl ⟨by rfl, ?_⟩) hS ?_
        rotate_left
        · intro w hSw; (try dsimp only at hSw); go_simp; (try with_reducible rfl)
        try simp only [Act.put, List.setIfInBounds_toArray, List.set_cons_zero, List.set_cons_succ]
        refine wpAnyE_take (i := 2) (v := ?_) rfl (by kernel_rfl) (fun _ _ _ h => h) (Or.inl ⟨by rfl, ?_⟩) hS ?_
        rotate_left
        · intro w hSw; (try dsimp only at hSw); go_simp; (try with_reducible rfl)
        try simp only [Act.put, List.setIfInBounds_toArray, List.set_cons_zero, List.set_cons_succ]
        refine wpAnyE_take (i := 3) (v := ?_) rfl (by kernel_rfl) (fun _ _ _ h => h) (Or.inl ⟨by rfl, ?_⟩) hS ?_
        rotate_left
        · intro w hSw; (try dsimp only at hSw); go_simp; (try with_reducible rfl)
        try simp only [Act.put, List.setIfInBounds_toArray, List.set_cons_zero, List.set_cons_succ]
        refine wpAnyE_take (i := 4) (v := ?_) rfl (by kernel_rfl) (fun _ _ _ h => h) (Or.inl ⟨by rfl, ?_⟩) hS ?_
        rotate_left
        · intro w hSw; (try dsimp only at hSw); go_simp; (try with_reducible rfl)
        try simp only [Act.put, List.setIfInBounds_toArray, List.set_cons_zero, List.set_cons_succ]
        refine wpAnyE_take (i := 5) (v := ?_) rfl (by kernel_rfl) (fun _ _ _ h => h) (Or.inl ⟨by rfl, ?_⟩) hS ?_
        rotate_left
        · intro w hSw; (try dsimp only at hSw); go_simp; (try with_reducible rfl)
        try simp only [Act.put, List.setIfInBounds_toArray, List.set_cons_zero, List.set_cons_succ]
        refine wpAnyE_take (i := 6) (v := ?_) rfl (by kernel_rfl) (fun _ _ _ h => h) (Or.inl ⟨by rfl, ?_⟩) hS ?_
        rotate_left
        · intro w hSw; (try dsimp only at hSw); go_simp; (try with_reducible rfl)
        try simp only [Act.put, List.setIfInBounds_toArray, List.set_cons_zero, List.set_cons_succ]
        refine wpAnyE_one (k := 7) (by kernel_rfl) rfl (fun K hK => ?_)
        go_simp
        refine hK.out _ _ (fun _ => ?_) ?_
        · have ba := (Below.refl _ wz.drew).alloc (Nat.le_refl _) (.cells #[.int .i64 (p : Int), .int .i64 (q : Int), .int .i64 X, .int .i64 Y] 39)
          exact ⟨((kA'.drew).past _).cell, ((kO'.drew).past _).cell 1, cell_by' ba d0', cell_by' ba d1', cell_by' ba d2', cell_by' ba d3'⟩
        try simp only [Act.put, List.setIfInBounds_toArray, List.set_cons_zero, List.set_cons_succ]
        refine wpAnyE_one (k := 8) (by kernel_rfl) rfl (fun K hK => ?_)
        refine step_pushRes (by rfl) _ _ (by rfl) (T + 1) hi (.slice au L cu) (partR' rs b k) (by rfl) (HB'.out.by (((Below.refl _ wz).drew).alloc (Nat.le_refl _) _)) wz.heap.size ⟨p, q, X, Y⟩ (by rfl) (Blk.new _ rfl) hhi (by have := HLL.out; omega) ?_
        intro a' c' w3 hBl3 hw3
        have hll := HLL.out
        rw [hll] at hBl3 ⊢
        have HBL3 := Lib.hid hBl3
        clear hBl3 hll
        have kA3 := hw3.blk (kA'.drew.past (.cells #[.int .i64 (p : Int), .int .i64 (q : Int), .int .i64 X, .int .i64 Y] 39)) (by omega)
        have kO3 := hw3.blk (kO'.drew.past (.cells #[.int .i64 (p : Int), .int .i64 (q : Int), .int .i64 X, .int .i64 Y] 39)) (by omega)
        have kR3 := hw3.blk (kR'.drew.past (.cells #[.int .i64 (p : Int), .int .i64 (q : Int), .int .i64 X, .int .i64 Y] 39)) (by omega)
        have hb3 := hw3.below (below_al (hb'.drew) (.cells #[.int .i64 (p : Int), .int .i64 (q : Int), .int .i64 X, .int .i64 Y] 39)) (by omega)
        have hb3w := hw3.below (below_al (HBW.drew) (.cells #[.int .i64 (p : Int), .int .i64 (q : Int), .int .i64 X, .int .i64 Y] 39)) (by omega)
        have cO3 : w3.cell? ⟨T, 1, none⟩ = some (.slice au L cu) := kO3.cell 1
        have fO3 : w3.frozen? ⟨T, 1, none⟩ = false := kO3.free 1
        have lO3 := kO3.lt
        have hsz3 := hw3.size
        simp only [World.size_alloc, World.size_drew] at hsz3
        have hS3 : (fun w' : World => (∀ o, w'.cell? ⟨w.heap.size, o, none⟩ = (#[.int .i64 (n : Int), .slice (some ⟨bb, off, none⟩) rs.length c] : Array Value)[o]?) ∧ w'.cell? ⟨T, 1, none⟩ = some (.slice au L cu) ∧ w'.cell? ⟨bb, off + k * 4, none⟩ = some (.int .i64 (p : Int)) ∧ w'.cell? ⟨bb, off + k * 4 + 1, none⟩ = some (.int .i64 (q : Int)) ∧ w'.cell? ⟨bb, off + k * 4 + 2, none⟩ = some (.int .i64 X) ∧ w'.cell? ⟨bb, off + k * 4 + 3, none⟩ = some (.int .i64 Y)) w3 := ⟨kA3.cell, cO3, cell_by' hb3 g0, cell_by' hb3 g1, cell_by' hb3 g2, cell_by' hb3 g3⟩
        refine hK.out _ _ (fun _ => hS3) ?_
        try simp only [Act.put, List.setIfInBounds_toArray, List.set_cons_zero, List.set_cons_succ]
        refine wpAnyE_one (k := 9) (by kernel_rfl) rfl (fun K hK => ?_)
        go_simp
        refine hK.out _ _ (fun _ => hS3) ?_
        try simp only [Act.put, List.setIfInBounds_toArray, List.set_cons_zero, List.set_cons_succ]
        refine wpAnyE_one (k := 10) (by kernel_rfl) rfl (fun K hK => ?_)
        go_simp
        refine hK.out _ _ (fun h => absurd rfl h) ?_
        refine wpAnyE_done (by kernel_rfl) ?_ _
        clear hS hS3
        go_wp2_with fail
        have hW4 : Within T (T + 1) w3 (w3.setCell ⟨T, 1, none⟩ (.slice a' (L + 1) c')) := Within.off _
        refine ⟨⟨k + 1, w3.heap.size, .slice a' (L + 1) c', by omega, by go_num, Lib.hid ?_, kO3.set 1 _, by omega, kA3.apart _ _ _ (by omega), kR3.apart _ _ _ (by omega), hW4.below hb3w (by omega), hb3.setCell (by simp; omega) _⟩, by simp [intOf]; omega⟩
        rw [HPT.out, HEP.out]
        exact BldRes.past hW4 HBL3.out (by omega)
      · rw [HXA.out, if_neg hm] at HPT
        have hne : (((allL rs p : Nat) : Int) == ((allL rs b : Nat) : Int)) = false := by simp; omega
        generalize allL rs p = Y1 at e1 hne
        generalize allL rs b = Y2 at e2 hne
        clear hm
        go_wp2
        go_quiet (fail)
        go_wp2
        exact ⟨⟨k + 1, hi, .slice au L cu, by omega, by go_num, Lib.hid (by rw [HPT.out]; exact HB.out.by (by ((repeat (first | (with_reducible exact Below.refl _ _) | (with_reducible refine below_drewN ?_ _) | (with_reducible refine Below.drew ?_) | (with_reducible refine below_al ?_ _) | (with_reducible refine below_on (by assumption) ?_) | ((with_reducible refine Below.setCell ?_ ?_ _); rotate_left; focus (first | omega | (simp; done) | (simp; omega))) | (with_reducible assumption))); done))), (by ((repeat (first | (with_reducible assumption) | (with_reducible refine Blk.drewN ?_ _) | (with_reducible refine Blk.drew ?_) | ((with_reducible refine Blk.new _ ?_); focus (first | omega | (simp; done) | (simp; omega))) | (with_reducible refine Blk.past ?_ _) | ((with_reducible refine Blk.apart ?_ _ _ _ ?_); rotate_left; focus (first | omega | (simp; done) | (simp; omega))) | (with_reducible refine Blk.by (by assumption) ?_))); done)), hhi, (by ((repeat (first | (with_reducible assumption) | (with_reducible refine Blk.drewN ?_ _) | (with_reducible refine Blk.drew ?_) | ((with_reducible refine Blk.new _ ?_); focus (first | omega | (simp; done) | (simp; omega))) | (with_reducible refine Blk.past ?_ _) | ((with_reducible refine Blk.apart ?_ _ _ _ ?_); rotate_left; focus (first | omega | (simp; done) | (simp; omega))) | (with_reducible refine Blk.by (by assumption) ?_))); done)), (by ((repeat (first | (with_reducible assumption) | (with_reducible refine Blk.drewN ?_ _) | (with_reducible refine Blk.drew ?_) | ((with_reducible refine Blk.new _ ?_); focus (first | omega | (simp; done) | (simp; omega))) | (with_reducible refine Blk.past ?_ _) | ((with_reducible refine Blk.apart ?_ _ _ _ ?_); rotate_left; focus (first | omega | (simp; done) | (simp; omega))) | (with_reducible refine Blk.by (by assumption) ?_))); done)), below_drewN HBW _, (by ((repeat (first | (with_reducible exact Below.refl _ _) | (with_reducible refine below_drewN ?_ _) | (with_reducible refine Below.drew ?_) | (with_reducible refine below_al ?_ _) | (with_reducible refine below_on (by assumption) ?_) | ((with_reducible refine Below.setCell ?_ ?_ _); rotate_left; focus (first | omega | (simp; done) | (simp; omega))) | (with_reducible assumption))); done))⟩, by simp [intOf]; omega⟩
    · obtain rfl : k = rs.length := by omega
      have i2 : ¬ (rs.length : Int) < (rs.length : Int) := by omega
      have qO := kO.cell
      have qR := kR.cell
      have fR := kR.free
      have lR := kR.lt
      have hPA : partR' rs b rs.length = partR rs b := by unfold partR' partR; rw [List.take_length]
      have HPA := Lib.hid hPA
      clear hPA
      go_wp2
      refine bodyPost_ret (v := .agg #[.int .i64 (n : Int), .slice au L cu]) (by simp [results, Try.results31, go_sem, *]) rfl ⟨_, rfl, ⟨_, rfl, ?_⟩, (by ((repeat (first | (with_reducible exact Below.refl _ _) | (with_reducible refine below_drewN ?_ _) | (with_reducible refine Below.drew ?_) | (with_reducible refine below_al ?_ _) | (with_reducible refine below_on (by assumption) ?_) | ((with_reducible refine Below.setCell ?_ ?_ _); rotate_left; focus (first | omega | (simp; done) | (simp; omega))) | (with_reducible assumption))); done))⟩
      have h9 := HB.out.own
      rw [HPA.out] at h9
      have := (OwnRes.past (Within.off (g := w.heap.size + 1) (o := 0) (.int .i64 (n : Int))) h9 (by omega))
      have := (OwnRes.past (Within.off (g := w.heap.size + 1) (o := 1) (.slice au L cu)) this (by omega))
      exact this.wide (by omega) (by simp; omega)
end Go.Proofs.Ytjolkdckhmmenaa
