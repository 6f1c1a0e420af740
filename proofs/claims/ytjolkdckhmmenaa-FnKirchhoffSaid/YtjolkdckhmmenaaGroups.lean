/- groups: the program's classes of nodes. -/
import Derived.Test.YtjolkdckhmmenaaTrees
namespace Go.Proofs.Ytjolkdckhmmenaa
open Go.RowKit
set_option linter.unusedVariables false
set_option linter.unusedSimpArgs false

theorem bit_smallU : ∀ s : Nat, s < 256 → ∀ i : Nat, i < 8 → (bits BinOp.and IntKind.u64 ((s : Int) / 2 ^ i) 1 == 0) = !bit s i := by decide +kernel
set_option maxRecDepth 100000 in
set_option maxHeartbeats 4000000 in
theorem groups_any (n : Nat) (rs : List Res) (s : Nat) (v : Value) (w : World) (h : NwV w v ⟨n, rs⟩) (hok : NwOk n rs) (hs : s < 256) :
    Calls Try.prog 36 #[v, .int .u64 (s : Int)] w fun e w' => ∃ v', e = .returned v' ∧ BldI w' w.heap.size w'.heap.size v' (labL n (selF (edg rs) (bit s) rs.length)) ∧ Below w.heap.size w w' := by
  have HI := Lib.hid (fun k : Nat => show iota (k + 1) = iota k ++ [(k : Int)] by simp [iota, List.range_succ])
  have HL := Lib.hid (fun k : Nat => length_iota k)
  have HIN := Lib.hid (fun i hi => bit_smallU s hs i hi)
  have HOK := Lib.hid hok
  obtain ⟨hn6, hr8, _⟩ := hok
  obtain ⟨sv, rfl, hR⟩ := h
  have HR := Lib.hid hR
  obtain ⟨a, c, rfl⟩ := hR.len
  clear hR
  go_enter Try.func36, Try.ntmps36
  go_wp2
  go_loopw [5, 15] (fun u i wr => ∃ (k hi : Nat), k ≤ n ∧ i = .int .i64 (k : Int) ∧ Hid (BldI wr (w.heap.size + 1) hi u (iota k)) ∧ w.heap.size + 1 < hi ∧ Blk wr w.heap.size #[.int .i64 (n : Int), .slice a rs.length c] 26 ∧ Below w.heap.size w wr) (fun _ i _ => n - (intOf i).toNat)
  case atStart =>
    refine ⟨0, w.heap.size + 1 + 1, Nat.zero_le _, rfl, Lib.hid ?_, by omega, (by ((repeat (first | (with_reducible assumption) | (with_reducible refine Blk.drewN ?_ _) | (with_reducible refine Blk.drew ?_) | ((with_reducible refine Blk.new _ ?_); focus (first | omega | (simp; done) | (simp; omega))) | (with_reducible refine Blk.past ?_ _) | ((with_reducible refine Blk.apart ?_ _ _ _ ?_); rotate_left; focus (first | omega | (simp; done) | (simp; omega))) | (with_reducible refine Blk.by (by assumption) ?_))); done)), (by ((repeat (first | (with_reducible exact Below.refl _ _) | (with_reducible refine below_drewN ?_ _) | (with_reducible refine Below.drew ?_) | (with_reducible refine below_al ?_ _) | (with_reducible refine below_on (by assumption) ?_) | ((with_reducible refine Below.setCell ?_ ?_ _); rotate_left; focus (first | omega | (simp; done) | (simp; omega))) | (with_reducible assumption))); done))⟩
    have hB : Blk ((w.alloc (.cells #[.int .i64 (n : Int), .slice a rs.length c] 26)).alloc (.cells #[] 2)) (w.heap.size + 1) #[] 2 := Blk.new _ (by simp)
    exact BldI.lit (zs := []) hB rfl (by simp) (Nat.le_refl _) (by omega) (by simp)
  case round =>
    obtain ⟨k, hi, hk, rfl, HB, hhi, kA, hb⟩ := hrel
    obtain ⟨a', c', rfl⟩ := HB.out.sized
    rw [HL.out k] at HB ⊢
    have qA := kA.cell
    have lA := kA.lt
    have hIs := HB.out.1
    have hlk := HL.out k
    have HLK := Lib.hid hlk
    by_cases hlt : k < n
    · have HX := Lib.hid (HI.out k)
      have i1 : (k : Int) < (n : Int) := by omega
      obtain ⟨Z, hZ⟩ : ∃ Z, iota k = Z := ⟨_, rfl⟩
      rw [hZ] at HB HLK HX
      have hzl : Z.length + 1 ≤ 2000 := by rw [HLK.out]; omega
      clear hZ hlk
      go_wp2_with (refine list_pushI (by rfl) _ _ (by rfl) (w.heap.size + 1) hi (.slice a' k c') Z [(k : Int)] (by rfl) (HB.out.by (by ((repeat (first | (with_reducible exact Below.refl _ _) | (with_reducible refine below_drewN ?_ _) | (with_reducible refine Below.drew ?_) | (with_reducible refine below_al ?_ _) | (with_reducible refine below_on (by assumption) ?_) | ((with_reducible refine Below.setCell ?_ ?_ _); rotate_left; focus (first | omega | (simp; done) | (simp; omega))) | (with_reducible assumption))); done))) wr.heap.size 1 #[.int .i64 (k : Int)] (by rfl) (by rfl) (by omega) (Blk.new _ rfl) (by rfl) (by omega) (by omega) ?_; intro a5 c5 w5 hB5 hw5; have HB5 := Lib.hid hB5; rw [HLK.out]; clear hB5)
      have hsz := hw5.size
      simp only [World.size_alloc] at hsz
      refine ⟨⟨k + 1, w5.heap.size, by omega, by go_num, Lib.hid ?_, by omega, hw5.blk (kA.past _) (by omega), hw5.below (below_al hb _) (by omega)⟩, by simp [intOf]; omega⟩
      rw [HX.out]
      have := HB5.out
      rw [HLK.out] at this
      exact this
    · obtain rfl : k = n := by omega
      have i1 : ¬ (k : Int) < (k : Int) := by omega
      have HB2 : Hid (BldI wr (w.heap.size + 1) hi (.slice a' k c') (labL k (selF (edg rs) (bit s) 0))) := HB
      clear HB hlk HLK
      go_wp2
      obtain ⟨wo, rfl⟩ : ∃ wo, wo = wr := ⟨_, rfl⟩
      go_loopw [26] (fun i wr' => ∃ (m : Nat), m ≤ rs.length ∧ i = .int .i64 (m : Int) ∧ Hid (BldI wr' (w.heap.size + 1) hi (.slice a' k c') (labL k (selF (edg rs) (bit s) m))) ∧ Blk wr' w.heap.size #[.int .i64 (k : Int), .slice a rs.length c] 26 ∧ Below w.heap.size w wr') (fun i _ => rs.length - (intOf i).toNat)
      case atStart => exact ⟨0, Nat.zero_le _, rfl, HB2, kA, hb⟩
      case round =>
        clear HB2 kA hb qA lA hIs
        obtain ⟨m, hm, rfl, HB, kA, hb⟩ := hrel
        have qA := kA.cell
        have lA := kA.lt
        have hIs := HB.out.1
        by_cases hlt2 : m < rs.length
        · obtain ⟨x, hx⟩ : ∃ x, rs[m]? = some x := ⟨_, List.getElem?_eq_getElem hlt2⟩
          obtain ⟨p, q, ep, eq, hp, hq, hE⟩ := HOK.out.at hx
          rcases HR.out with ⟨_, _, _, h2⟩ | ⟨bb, off, cap, he, h2, h3, h4⟩
          · rw [h2] at hlt2; simp at hlt2
          obtain ⟨rfl, rfl⟩ : a = some ⟨bb, off, none⟩ ∧ c = cap := by simpa using he
          obtain ⟨d0, d1, _, _⟩ := (h4 m x hx).by hb
          rw [ep] at d0
          rw [eq] at d1
          obtain ⟨L, hLe⟩ : ∃ L, selF (edg rs) (bit s) m = L := ⟨_, rfl⟩
          rw [hLe] at HB
          have HLE := Lib.hid hLe
          have HE := Lib.hid hE
          obtain ⟨G, cap', cs, hv, hG, hBk, hcell⟩ := HB.out.blk (by rw [length_labL]; omega)
          rw [length_labL] at hv
          obtain ⟨rfl, rfl⟩ : a' = some ⟨G, 0, none⟩ ∧ c' = cap' := by simpa using hv
          have cp := hcell p _ (labL_get L hp)
          have cq := hcell q _ (labL_get L hq)
          have HC := Lib.hid hcell
          have hb6 : bit s m = true ∨ bit s m = false := by cases bit s m <;> simp
          have j1 : (0 : Int) ≤ (m : Int) := by omega
          have j2 : (m : Int) < (rs.length : Int) := by omega
          have j3 : (0 : Int) ≤ (p : Int) := by omega
          have j4 : (p : Int) < (k : Int) := by omega
          have j5 : (0 : Int) ≤ (q : Int) := by omega
          have j6 : (q : Int) < (k : Int) := by omega
          have HIm := HIN.out m (by omega)
          have lG := hBk.lt
          have hw1 : IntKind.u64.wrap (m : Int) = (m : Int) := by simp [IntKind.wrap, IntKind.bits, IntKind.signed]; omega
          have d0' := d0
          obtain ⟨_, _, d2, d3⟩ := (h4 m x hx).by hb
          obtain ⟨xn, xd, hxn, hxd⟩ : ∃ xn xd, x.num = xn ∧ x.den = xd := ⟨_, _, rfl, rfl⟩
          rw [hxn] at d2
          rw [hxd] at d3
          clear hLe hE h4 he hx hv hcell hBk ep eq d0' hxn hxd
          obtain ⟨y, hy⟩ : ∃ y, L p = y := ⟨_, rfl⟩
          obtain ⟨z, hz⟩ : ∃ z, L q = z := ⟨_, rfl⟩
          rw [hy] at cp
          rw [hz] at cq
          have HY := Lib.hid hy
          have HZ := Lib.hid hz
          clear hy hz
          rcases hb6 with hbt | hbf
          · rw [hbt] at HIm
            have HBT := Lib.hid hbt
            clear hbt
            by_cases hyz : y = z
            · subst hyz
              have HST := fun w' (hb' : Below wr.heap.size wr w') => (show BldI w' (w.heap.size + 1) hi (.slice (some ⟨G, 0, none⟩) k c') (labL k (selF (edg rs) (bit s) (m + 1))) from by
                rw [selF_on HBT.out, HE.out, HLE.out, mrgF_same (by rw [HY.out, HZ.out])]
                exact BldI.by hb' HB.out)
              have HS2 := Lib.hid HST
              clear HST
              go_wp2
              go_quiet (fail)
              go_wp2
              exact ⟨⟨m + 1, by omega, by go_num, Lib.hid (HS2.out _ (by ((repeat (first | (with_reducible exact Below.refl _ _) | (with_reducible refine below_drewN ?_ _) | (with_reducible refine Below.drew ?_) | (with_reducible refine below_al ?_ _) | (with_reducible refine below_on (by assumption) ?_) | ((with_reducible refine Below.setCell ?_ ?_ _); rotate_left; focus (first | omega | (simp; done) | (simp; omega))) | (with_reducible assumption))); done))), (by ((repeat (first | (with_reducible assumption) | (with_reducible refine Blk.drewN ?_ _) | (with_reducible refine Blk.drew ?_) | ((with_reducible refine Blk.new _ ?_); focus (first | omega | (simp; done) | (simp; omega))) | (with_reducible refine Blk.past ?_ _) | ((with_reducible refine Blk.apart ?_ _ _ _ ?_); rotate_left; focus (first | omega | (simp; done) | (simp; omega))) | (with_reducible refine Blk.by (by assumption) ?_))); done)), (by ((repeat (first | (with_reducible exact Below.refl _ _) | (with_reducible refine below_drewN ?_ _) | (with_reducible refine Below.drew ?_) | (with_reducible refine below_al ?_ _) | (with_reducible refine below_on (by assumption) ?_) | ((with_reducible refine Below.setCell ?_ ?_ _); rotate_left; focus (first | omega | (simp; done) | (simp; omega))) | (with_reducible assumption))); done))⟩, by simp [intOf]; omega⟩
            · have hyzb : ((y : Int) == (z : Int)) = false := by simp; omega
              have HNE := Lib.hid hyz
              clear hyz
              rcases Nat.lt_or_gt_of_ne HNE.out with hyl | hyl
              · have y1 : ¬ z < y := by omega
                have y2 : y < z := by omega
                have y3 : (y : Int) < (z : Int) := by omega
                have y4 : ¬ (z : Int) < (y : Int) := by omega
                go_wp2
                go_quiet (fail)
                go_wp2
                go_quiet (fail)
                go_wp2
                obtain ⟨wo2, rfl⟩ : ∃ wo, wo = wr := ⟨_, rfl⟩
                go_loopw [74] (fun i wr2 => ∃ (j : Nat), j ≤ k ∧ i = .int .i64 (j : Int) ∧ Hid (BldI wr2 (w.heap.size + 1) hi (.slice (some ⟨G, 0, none⟩) k c') (labL k (upF (mrgF L p q) L j))) ∧ Blk wr2 w.heap.size #[.int .i64 (k : Int), .slice (some ⟨bb, off, none⟩) rs.length c] 26 ∧ Below w.heap.size w wr2) (fun i _ => k - (intOf i).toNat)
                case atStart => exact ⟨0, Nat.zero_le _, rfl, Lib.hid (by rw [upF_zero]; exact BldI.by (by ((repeat (first | (with_reducible exact Below.refl _ _) | (with_reducible refine below_drewN ?_ _) | (with_reducible refine Below.drew ?_) | (with_reducible refine below_al ?_ _) | (with_reducible refine below_on (by assumption) ?_) | ((with_reducible refine Below.setCell ?_ ?_ _); rotate_left; focus (first | omega | (simp; done) | (simp; omega))) | (with_reducible assumption))); done)) HB.out), (by ((repeat (first | (with_reducible assumption) | (with_reducible refine Blk.drewN ?_ _) | (with_reducible refine Blk.drew ?_) | ((with_reducible refine Blk.new _ ?_); focus (first | omega | (simp; done) | (simp; omega))) | (with_reducible refine Blk.past ?_ _) | ((with_reducible refine Blk.apart ?_ _ _ _ ?_); rotate_left; focus (first | omega | (simp; done) | (simp; omega))) | (with_reducible refine Blk.by (by assumption) ?_))); done)), (by ((repeat (first | (with_reducible exact Below.refl _ _) | (with_reducible refine below_drewN ?_ _) | (with_reducible refine Below.drew ?_) | (with_reducible refine below_al ?_ _) | (with_reducible refine below_on (by assumption) ?_) | ((with_reducible refine Below.setCell ?_ ?_ _); rotate_left; focus (first | omega | (simp; done) | (simp; omega))) | (with_reducible assumption))); done))⟩
                case round =>
                  clear HB kA hb qA lA hIs HC cp cq d0 d1 d2 d3 lG
                  obtain ⟨j, hj, rfl, HB, kA, hb⟩ := hrel
                  have qA := kA.cell
                  have lA := kA.lt
                  have hIs := HB.out.1
                  by_cases hlt3 : j < k
                  · obtain ⟨G2, cap2, cs2, hv2, hG2, hBk2, hcell2⟩ := HB.out.blk (by rw [length_labL]; omega)
                    rw [length_labL] at hv2
                    obtain ⟨rfl, rfl⟩ : G = G2 ∧ c' = cap2 := by simpa using hv2
                    have cj := hcell2 j _ (labL_get _ hlt3)
                    rw [upF_at] at cj
                    have fG := hBk2.free
                    have lG := hBk2.lt
                    obtain ⟨x, hx⟩ : ∃ x, L j = x := ⟨_, rfl⟩
                    rw [hx] at cj
                    have HX := Lib.hid hx
                    have l1 : (0 : Int) ≤ (j : Int) := by omega
                    have l2 : (j : Int) < (k : Int) := by omega
                    have hGA : w.heap.size < G := by omega
                    clear hv2 hcell2 hBk2 hx
                    by_cases hm2 : x = z
                    · have HST := Lib.hid (show BldI (wr.setCell ⟨G, j, none⟩ (.int .i64 (y : Int))) (w.heap.size + 1) hi (.slice (some ⟨G, 0, none⟩) k c') (labL k (upF (mrgF L p q) L (j + 1))) from by
                        have e := upF_step (f := mrgF L p q) (g := L) hlt3 (y := y) (by unfold mrgF; rw [HX.out, HY.out, HZ.out, if_pos (by omega)]; omega)
                        rw [← e]
                        exact HB.out.setAt j _)
                      have hmb : ((x : Int) == (z : Int)) = true := by simp; omega
                      clear hm2
                      go_wp2
                      exact ⟨⟨j + 1, by omega, by go_num, HST, kA.apart _ _ _ (by omega), (by ((repeat (first | (with_reducible exact Below.refl _ _) | (with_reducible refine below_drewN ?_ _) | (with_reducible refine Below.drew ?_) | (with_reducible refine below_al ?_ _) | (with_reducible refine below_on (by assumption) ?_) | ((with_reducible refine Below.setCell ?_ ?_ _); rotate_left; focus (first | omega | (simp; done) | (simp; omega))) | (with_reducible assumption))); done))⟩, by simp [intOf]; omega⟩
                    · have hmb : ((x : Int) == (z : Int)) = false := by simp; omega
                      have HST := Lib.hid (show BldI wr (w.heap.size + 1) hi (.slice (some ⟨G, 0, none⟩) k c') (labL k (upF (mrgF L p q) L (j + 1))) from by
                        rw [upF_same (by unfold mrgF; rw [HX.out, HY.out, HZ.out, if_neg (by omega)])]
                        exact HB.out)
                      clear hm2
                      go_wp2
                      exact ⟨⟨j + 1, by omega, by go_num, HST, kA, hb⟩, by simp [intOf]; omega⟩
                  · obtain rfl : j = k := by omega
                    have l2 : ¬ (j : Int) < (j : Int) := by omega
                    have HST := Lib.hid (show BldI wr (w.heap.size + 1) hi (.slice (some ⟨G, 0, none⟩) j c') (labL j (selF (edg rs) (bit s) (m + 1))) from by
                      rw [selF_on HBT.out, HE.out, HLE.out]
                      have := HB.out
                      rwa [upF_all] at this)
                    go_wp2
                    exact ⟨⟨m + 1, by omega, by go_num, HST, kA, hb⟩, by simp [intOf]; omega⟩
              · have y1 : ¬ y < z := by omega
                have y2 : z < y := by omega
                have y3 : (z : Int) < (y : Int) := by omega
                have y4 : ¬ (y : Int) < (z : Int) := by omega
                go_wp2
                go_quiet (fail)
                go_wp2
                go_quiet (fail)
                go_wp2
                obtain ⟨wo2, rfl⟩ : ∃ wo, wo = wr := ⟨_, rfl⟩
                go_loopw [74] (fun i wr2 => ∃ (j : Nat), j ≤ k ∧ i = .int .i64 (j : Int) ∧ Hid (BldI wr2 (w.heap.size + 1) hi (.slice (some ⟨G, 0, none⟩) k c') (labL k (upF (mrgF L p q) L j))) ∧ Blk wr2 w.heap.size #[.int .i64 (k : Int), .slice (some ⟨bb, off, none⟩) rs.length c] 26 ∧ Below w.heap.size w wr2) (fun i _ => k - (intOf i).toNat)
                case atStart => exact ⟨0, Nat.zero_le _, rfl, Lib.hid (by rw [upF_zero]; exact BldI.by (by ((repeat (first | (with_reducible exact Below.refl _ _) | (with_reducible refine below_drewN ?_ _) | (with_reducible refine Below.drew ?_) | (with_reducible refine below_al ?_ _) | (with_reducible refine below_on (by assumption) ?_) | ((with_reducible refine Below.setCell ?_ ?_ _); rotate_left; focus (first | omega | (simp; done) | (simp; omega))) | (with_reducible assumption))); done)) HB.out), (by ((repeat (first | (with_reducible assumption) | (with_reducible refine Blk.drewN ?_ _) | (with_reducible refine Blk.drew ?_) | ((with_reducible refine Blk.new _ ?_); focus (first | omega | (simp; done) | (simp; omega))) | (with_reducible refine Blk.past ?_ _) | ((with_reducible refine Blk.apart ?_ _ _ _ ?_); rotate_left; focus (first | omega | (simp; done) | (simp; omega))) | (with_reducible refine Blk.by (by assumption) ?_))); done)), (by ((repeat (first | (with_reducible exact Below.refl _ _) | (with_reducible refine below_drewN ?_ _) | (with_reducible refine Below.drew ?_) | (with_reducible refine below_al ?_ _) | (with_reducible refine below_on (by assumption) ?_) | ((with_reducible refine Below.setCell ?_ ?_ _); rotate_left; focus (first | omega | (simp; done) | (simp; omega))) | (with_reducible assumption))); done))⟩
                case round =>
                  clear HB kA hb qA lA hIs HC cp cq d0 d1 d2 d3 lG
                  obtain ⟨j, hj, rfl, HB, kA, hb⟩ := hrel
                  have qA := kA.cell
                  have lA := kA.lt
                  have hIs := HB.out.1
                  by_cases hlt3 : j < k
                  · obtain ⟨G2, cap2, cs2, hv2, hG2, hBk2, hcell2⟩ := HB.out.blk (by rw [length_labL]; omega)
                    rw [length_labL] at hv2
                    obtain ⟨rfl, rfl⟩ : G = G2 ∧ c' = cap2 := by simpa using hv2
                    have cj := hcell2 j _ (labL_get _ hlt3)
                    rw [upF_at] at cj
                    have fG := hBk2.free
                    have lG := hBk2.lt
                    obtain ⟨x, hx⟩ : ∃ x, L j = x := ⟨_, rfl⟩
                    rw [hx] at cj
                    have HX := Lib.hid hx
                    have l1 : (0 : Int) ≤ (j : Int) := by omega
                    have l2 : (j : Int) < (k : Int) := by omega
                    have hGA : w.heap.size < G := by omega
                    clear hv2 hcell2 hBk2 hx
                    by_cases hm2 : x = y
                    · have HST := Lib.hid (show BldI (wr.setCell ⟨G, j, none⟩ (.int .i64 (z : Int))) (w.heap.size + 1) hi (.slice (some ⟨G, 0, none⟩) k c') (labL k (upF (mrgF L p q) L (j + 1))) from by
                        have e := upF_step (f := mrgF L p q) (g := L) hlt3 (y := z) (by unfold mrgF; rw [HX.out, HY.out, HZ.out, if_pos (by omega)]; omega)
                        rw [← e]
                        exact HB.out.setAt j _)
                      have hmb : ((x : Int) == (y : Int)) = true := by simp; omega
                      clear hm2
                      go_wp2
                      exact ⟨⟨j + 1, by omega, by go_num, HST, kA.apart _ _ _ (by omega), (by ((repeat (first | (with_reducible exact Below.refl _ _) | (with_reducible refine below_drewN ?_ _) | (with_reducible refine Below.drew ?_) | (with_reducible refine below_al ?_ _) | (with_reducible refine below_on (by assumption) ?_) | ((with_reducible refine Below.setCell ?_ ?_ _); rotate_left; focus (first | omega | (simp; done) | (simp; omega))) | (with_reducible assumption))); done))⟩, by simp [intOf]; omega⟩
                    · have hmb : ((x : Int) == (y : Int)) = false := by simp; omega
                      have HST := Lib.hid (show BldI wr (w.heap.size + 1) hi (.slice (some ⟨G, 0, none⟩) k c') (labL k (upF (mrgF L p q) L (j + 1))) from by
                        rw [upF_same (by unfold mrgF; rw [HX.out, HY.out, HZ.out, if_neg (by omega)])]
                        exact HB.out)
                      clear hm2
                      go_wp2
                      exact ⟨⟨j + 1, by omega, by go_num, HST, kA, hb⟩, by simp [intOf]; omega⟩
                  · obtain rfl : j = k := by omega
                    have l2 : ¬ (j : Int) < (j : Int) := by omega
                    have HST := Lib.hid (show BldI wr (w.heap.size + 1) hi (.slice (some ⟨G, 0, none⟩) j c') (labL j (selF (edg rs) (bit s) (m + 1))) from by
                      rw [selF_on HBT.out, HE.out, HLE.out]
                      have := HB.out
                      rwa [upF_all] at this)
                    go_wp2
                    exact ⟨⟨m + 1, by omega, by go_num, HST, kA, hb⟩, by simp [intOf]; omega⟩
          · rw [hbf] at HIm
            have HST := fun w' (hb' : Below wr.heap.size wr w') => (show BldI w' (w.heap.size + 1) hi (.slice (some ⟨G, 0, none⟩) k c') (labL k (selF (edg rs) (bit s) (m + 1))) from by
              rw [selF_off (by rw [hbf]; decide), HLE.out]
              exact BldI.by hb' HB.out)
            have HS2 := Lib.hid HST
            clear HST hbf
            go_wp2
            go_quiet (fail)
            go_wp2
            exact ⟨⟨m + 1, by omega, by go_num, Lib.hid (HS2.out _ (by ((repeat (first | (with_reducible exact Below.refl _ _) | (with_reducible refine below_drewN ?_ _) | (with_reducible refine Below.drew ?_) | (with_reducible refine below_al ?_ _) | (with_reducible refine below_on (by assumption) ?_) | ((with_reducible refine Below.setCell ?_ ?_ _); rotate_left; focus (first | omega | (simp; done) | (simp; omega))) | (with_reducible assumption))); done))), (by ((repeat (first | (with_reducible assumption) | (with_reducible refine Blk.drewN ?_ _) | (with_reducible refine Blk.drew ?_) | ((with_reducible refine Blk.new _ ?_); focus (first | omega | (simp; done) | (simp; omega))) | (with_reducible refine Blk.past ?_ _) | ((with_reducible refine Blk.apart ?_ _ _ _ ?_); rotate_left; focus (first | omega | (simp; done) | (simp; omega))) | (with_reducible refine Blk.by (by assumption) ?_))); done)), (by ((repeat (first | (with_reducible exact Below.refl _ _) | (with_reducible refine below_drewN ?_ _) | (with_reducible refine Below.drew ?_) | (with_reducible refine below_al ?_ _) | (with_reducible refine below_on (by assumption) ?_) | ((with_reducible refine Below.setCell ?_ ?_ _); rotate_left; focus (first | omega | (simp; done) | (simp; omega))) | (with_reducible assumption))); done))⟩, by simp [intOf]; omega⟩
        · obtain rfl : m = rs.length := by omega
          have i2 : ¬ (rs.length : Int) < (rs.length : Int) := by omega
          have hs := HB.out
          have HB2 := Lib.hid (show BldI wr w.heap.size wr.heap.size (.slice a' k c') (labL k (selF (edg rs) (bit s) rs.length)) from hs.wide (by omega) hIs (Nat.le_refl _))
          clear hs HB
          go_wp2
          go_ret
          exact ⟨_, rfl, HB2.out, hb⟩
end Go.Proofs.Ytjolkdckhmmenaa
