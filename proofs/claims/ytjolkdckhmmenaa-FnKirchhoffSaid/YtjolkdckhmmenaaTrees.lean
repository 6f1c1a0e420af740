/- l26Trees and groups: the classes of nodes that a set of resistors connects. -/
import Derived.Test.YtjolkdckhmmenaaNw
import Derived.Test.YtjolkdckhmmenaaLabs
import Derived.Test.YtjolkdckhmmenaaOrdB
import Derived.Test.YtjolkdckhmmenaaDraw1
import Derived.BigRegion
import Derived.BigQuiet
namespace Go.Proofs.Ytjolkdckhmmenaa
open Go.RowKit
set_option linter.unusedVariables false
set_option linter.unusedSimpArgs false

/-- The labels of the first n nodes. -/
def labL (n : Nat) (f : Nat → Nat) : List Int := (List.range n).map fun v => ((f v : Nat) : Int)
theorem length_labL (n : Nat) (f : Nat → Nat) : (labL n f).length = n := by simp [labL]
theorem labL_get {n v : Nat} (f : Nat → Nat) (h : v < n) : (labL n f)[v]? = some ((f v : Nat) : Int) := by simp [labL, h]
theorem labL_id (n : Nat) : labL n (fun v => v) = iota n := rfl
theorem labL_set {n j y : Nat} {f g : Nat → Nat} (h : j < n) (hy : g j = y) (hf : ∀ v, v ≠ j → g v = f v) : (labL n f).set j (y : Int) = labL n g := by
  apply List.ext_getElem?
  intro i
  by_cases hi : i < n
  · rw [labL_get g hi]
    by_cases e : i = j
    · subst e; rw [List.getElem?_set_self (by rw [length_labL]; exact hi), hy]
    · rw [List.getElem?_set_ne (fun q => e q.symm), labL_get f hi, hf i e]
  · rw [List.getElem?_eq_none (by rw [List.length_set, length_labL]; omega), List.getElem?_eq_none (by rw [length_labL]; omega)]
/-- Half way through the nodes. -/
def upF (f g : Nat → Nat) (j : Nat) : Nat → Nat := fun v => if v < j then f v else g v
theorem upF_zero (f g : Nat → Nat) : upF f g 0 = g := by funext v; unfold upF; rw [if_neg (by omega)]
theorem upF_all {f g : Nat → Nat} {n : Nat} : labL n (upF f g n) = labL n f := by
  unfold labL
  apply List.map_congr_left
  intro v hv
  unfold upF; rw [if_pos (by simpa using hv)]
theorem upF_at (f g : Nat → Nat) (j : Nat) : upF f g j j = g j := by unfold upF; rw [if_neg (by omega)]
theorem upF_same {f g : Nat → Nat} {j : Nat} (h : f j = g j) : upF f g (j + 1) = upF f g j := by
  funext v; unfold upF
  by_cases e : v = j
  · subst e; rw [if_pos (by omega), if_neg (by omega), h]
  · by_cases l : v < j
    · rw [if_pos (by omega), if_pos l]
    · rw [if_neg (by omega), if_neg l]
theorem upF_step {f g : Nat → Nat} {n j y : Nat} (h : j < n) (hy : f j = y) : (labL n (upF f g j)).set j (y : Int) = labL n (upF f g (j + 1)) :=
  labL_set h (by unfold upF; rw [if_pos (by omega), hy]) (fun v hv => by
    unfold upF
    by_cases l : v < j
    · rw [if_pos (by omega), if_pos l]
    · rw [if_neg (by omega), if_neg l])

theorem bit_small : ∀ s : Nat, s < 256 → ∀ i : Nat, i < 8 → (bits BinOp.and IntKind.i64 ((s : Int) / 2 ^ i) 1 == 1) = bit s i := by decide +kernel
set_option maxRecDepth 100000 in
theorem l26In_any (s i : Nat) (hs : s < 256) (hi : i < 8) (w : World) :
    Calls Try.prog 45 #[.int .i64 (s : Int), .int .i64 (i : Int)] w fun e w' => e = .returned (.bool (bit s i)) ∧ w = w' := by
  have HB := Lib.hid (bit_small s hs i hi)
  generalize bit s i = b at HB
  go_enter Try.func45, Try.ntmps45
  go_wp2
  go_ret
  exact ⟨ret_bool HB.out, rfl⟩

theorem BldI.wide {w : World} {lo hi lo' hi' : Nat} {v : Value} {zs : List Int} (h : BldI w lo hi v zs) (h1 : lo' ≤ lo) (h2 : hi ≤ hi') (h3 : hi' ≤ w.heap.size) : BldI w lo' hi' v zs := by
  obtain ⟨hs, ⟨hlen, r⟩, h4⟩ := h
  refine ⟨h3, ⟨hlen, ?_⟩, fun g hg => by have := h4 g hg; omega⟩
  rcases r with r | ⟨g, cap, cur, e1, e2, e3⟩
  · exact .inl r
  · exact .inr ⟨g, cap, cur, e1, by omega, e3⟩
/-- What the walks want of a network. -/
def NwOk (n : Nat) (rs : List Res) : Prop := n ≤ 6 ∧ rs.length ≤ 8 ∧ ∀ r ∈ rs, (0 ≤ r.a ∧ r.a < n) ∧ (0 ≤ r.b ∧ r.b < n)
theorem NwOk.at {n : Nat} {rs : List Res} (h : NwOk n rs) {k : Nat} {r : Res} (hk : rs[k]? = some r) : ∃ p q : Nat, r.a = p ∧ r.b = q ∧ p < n ∧ q < n ∧ edg rs k = (p, q) := by
  have q := h.2.2 r (List.mem_of_getElem? hk)
  exact ⟨r.a.toNat, r.b.toNat, by omega, by omega, by omega, by omega, edg_at hk⟩
theorem max_beq (x y z : Nat) : ((x : Int) == max (y : Int) (z : Int)) = decide (x = max y z) := by
  rw [Bool.eq_iff_iff, beq_iff_eq, decide_eq_true_eq]; omega

set_option maxRecDepth 100000 in
set_option maxHeartbeats 4000000 in
theorem l26Trees_any (n : Nat) (rs : List Res) (s : Nat) (v : Value) (w : World) (h : NwV w v ⟨n, rs⟩) (hok : NwOk n rs) (hs : s < 256) :
    Calls Try.prog 40 #[v, .int .i64 (s : Int)] w fun e w' => ∃ v', e = .returned v' ∧ BldI w' w.heap.size w'.heap.size v' (labL n (selF (edg rs) (bit s) rs.length)) ∧ Below w.heap.size w w' := by
  have HI := Lib.hid (fun k : Nat => show iota (k + 1) = iota k ++ [(k : Int)] by simp [iota, List.range_succ])
  have HL := Lib.hid (fun k : Nat => length_iota k)
  have HIN := Lib.hid (fun i hi w => l26In_any s i hs hi w)
  have HOK := Lib.hid hok
  obtain ⟨hn6, hr8, _⟩ := hok
  obtain ⟨sv, rfl, hR⟩ := h
  have HR := Lib.hid hR
  obtain ⟨a, c, rfl⟩ := hR.len
  clear hR
  go_enter Try.func40, Try.ntmps40
  go_wp2
  go_loopw [5, 6] (fun u i wr => ∃ (k hi : Nat), k ≤ n ∧ i = .int .i64 (k : Int) ∧ Hid (BldI wr (w.heap.size + 1) hi u (iota k)) ∧ w.heap.size + 1 < hi ∧ Blk wr w.heap.size #[.int .i64 (n : Int), .slice a rs.length c] 26 ∧ Below w.heap.size w wr) (fun _ i _ => n - (intOf i).toNat)
  case atStart =>
    refine ⟨0, w.heap.size + 1 + 1, Nat.zero_le _, rfl, Lib.hid ?_, by omega, (by ((repeat (first | (with_reducible assumption) | (with_reducible refine Blk.drewN ?_ _) | (with_reducible refine Blk.drew ?_) | ((with_reducible refine Blk.new _ ?_); focus (first | omega | (simp; done) | (simp; omega))) | (with_reducible refine Blk.past ?_ _) | ((with_reducible refine Blk.apart ?_ _ _ _ ?_); rotate_left; focus (first | omega | (simp; done) | (simp; omega))) | (with_reducible refine Blk.by (by assumption) ?_))); done)), (by ((repeat (first | (with_reducible exact Below.refl _ _) | (with_reducible refine below_drewN ?_ _) | (with_reducible refine Below.drew ?_) | (with_reducible refine below_al ?_ _) | (with_reducible refine below_on (by assumption) ?_) | ((with_reducible refine Below.setCell ?_ ?_ _); rotate_left; focus (first | omega | (simp; done) | (simp; omega))) | (with_reducible assumption))); done))⟩
    have hB : Blk ((w.alloc (.cells #[.int .i64 (n : Int), .slice a rs.length c] 26)).alloc (.cells #[] 2)) (w.heap.size + 1) #[] 2 := Blk.new _ (by simp)
    exact BldI.lit (zs := []) hB rfl (by simp) (Nat.le_refl _) (by omega) (by simp)
  case round =>
    obtain ⟨k, hi, hk, rfl, HB, hhi, kA, hb⟩ := hrel
    obtain ⟨a', c', rfl⟩ := HB.out.sized
    rw [HL.out k] at HB ⊢
    have qA := kA.cell
    have lA := kA.lt
    have hIs := HB.out.1
    have hlk := HL.out k
    have HLK := Lib.hid hlk
    by_cases hlt : k < n
    · have HX := Lib.hid (HI.out k)
      have i1 : (k : Int) < (n : Int) := by omega
      obtain ⟨Z, hZ⟩ : ∃ Z, iota k = Z := ⟨_, rfl⟩
      rw [hZ] at HB HLK HX
      have hzl : Z.length + 1 ≤ 2000 := by rw [HLK.out]; omega
      clear hZ hlk
      go_wp2_with (refine list_pushI (by rfl) _ _ (by rfl) (w.heap.size + 1) hi (.slice a' k c') Z [(k : Int)] (by rfl) (HB.out.by (by ((repeat (first | (with_reducible exact Below.refl _ _) | (with_reducible refine below_drewN ?_ _) | (with_reducible refine Below.drew ?_) | (with_reducible refine below_al ?_ _) | (with_reducible refine below_on (by assumption) ?_) | ((with_reducible refine Below.setCell ?_ ?_ _); rotate_left; focus (first | omega | (simp; done) | (simp; omega))) | (with_reducible assumption))); done))) wr.heap.size 1 #[.int .i64 (k : Int)] (by rfl) (by rfl) (by omega) (Blk.new _ rfl) (by rfl) (by omega) (by omega) ?_; intro a5 c5 w5 hB5 hw5; have HB5 := Lib.hid hB5; rw [HLK.out]; clear hB5)
      have hsz := hw5.size
      simp only [World.size_alloc] at hsz
      refine ⟨⟨k + 1, w5.heap.size, by omega, by go_num, Lib.hid ?_, by omega, hw5.blk (kA.past _) (by omega), hw5.below (below_al hb _) (by omega)⟩, by simp [intOf]; omega⟩
      rw [HX.out]
      have := HB5.out
      rw [HLK.out] at this
      exact this
    · obtain rfl : k = n := by omega
      have i1 : ¬ (k : Int) < (k : Int) := by omega
      have HB2 : Hid (BldI wr (w.heap.size + 1) hi (.slice a' k c') (labL k (selF (edg rs) (bit s) 0))) := HB
      clear HB hlk HLK
      go_wp2
      obtain ⟨wo, rfl⟩ : ∃ wo, wo = wr := ⟨_, rfl⟩
      go_loopw [7] (fun i wr' => ∃ (m : Nat), m ≤ rs.length ∧ i = .int .i64 (m : Int) ∧ Hid (BldI wr' (w.heap.size + 1) hi (.slice a' k c') (labL k (selF (edg rs) (bit s) m))) ∧ Blk wr' w.heap.size #[.int .i64 (k : Int), .slice a rs.length c] 26 ∧ Below w.heap.size w wr') (fun i _ => rs.length - (intOf i).toNat)
      case atStart => exact ⟨0, Nat.zero_le _, rfl, HB2, kA, hb⟩
      case round =>
        clear HB2 kA hb qA lA hIs
        obtain ⟨m, hm, rfl, HB, kA, hb⟩ := hrel
        have qA := kA.cell
        have lA := kA.lt
        have hIs := HB.out.1
        by_cases hlt2 : m < rs.length
        · obtain ⟨x, hx⟩ : ∃ x, rs[m]? = some x := ⟨_, List.getElem?_eq_getElem hlt2⟩
          obtain ⟨p, q, ep, eq, hp, hq, hE⟩ := HOK.out.at hx
          rcases HR.out with ⟨_, _, _, h2⟩ | ⟨bb, off, cap, he, h2, h3, h4⟩
          · rw [h2] at hlt2; simp at hlt2
          obtain ⟨rfl, rfl⟩ : a = some ⟨bb, off, none⟩ ∧ c = cap := by simpa using he
          obtain ⟨d0, d1, _, _⟩ := (h4 m x hx).by hb
          rw [ep] at d0
          rw [eq] at d1
          obtain ⟨L, hLe⟩ : ∃ L, selF (edg rs) (bit s) m = L := ⟨_, rfl⟩
          rw [hLe] at HB
          have HLE := Lib.hid hLe
          have HE := Lib.hid hE
          obtain ⟨G, cap', cs, hv, hG, hBk, hcell⟩ := HB.out.blk (by rw [length_labL]; omega)
          rw [length_labL] at hv
          obtain ⟨rfl, rfl⟩ : a' = some ⟨G, 0, none⟩ ∧ c' = cap' := by simpa using hv
          have cp := hcell p _ (labL_get L hp)
          have cq := hcell q _ (labL_get L hq)
          have HC := Lib.hid hcell
          have hb6 : bit s m = true ∨ bit s m = false := by cases bit s m <;> simp
          have j1 : (0 : Int) ≤ (m : Int) := by omega
          have j2 : (m : Int) < (rs.length : Int) := by omega
          have j3 : (0 : Int) ≤ (p : Int) := by omega
          have j4 : (p : Int) < (k : Int) := by omega
          have j5 : (0 : Int) ≤ (q : Int) := by omega
          have j6 : (q : Int) < (k : Int) := by omega
          have HIm := Lib.hid (fun w => HIN.out m (by omega) w)
          clear hLe hE h4 he hx hv hcell hBk ep eq
          rcases hb6 with hbt | hbf
          · rw [hbt] at HIm
            have HBT := Lib.hid hbt
            obtain ⟨y, hy⟩ : ∃ y, L p = y := ⟨_, rfl⟩
            obtain ⟨z, hz⟩ : ∃ z, L q = z := ⟨_, rfl⟩
            rw [hy] at cp
            rw [hz] at cq
            have HY := Lib.hid hy
            have HZ := Lib.hid hz
            clear hbt hy hz
            go_wp2
            go_quiet (fail)
            go_wp2
            obtain ⟨wo2, rfl⟩ : ∃ wo, wo = wr := ⟨_, rfl⟩
            go_loopw [10] (fun i wr2 => ∃ (j : Nat), j ≤ k ∧ i = .int .i64 (j : Int) ∧ Hid (BldI wr2 (w.heap.size + 1) hi (.slice (some ⟨G, 0, none⟩) k c') (labL k (upF (mrgF L p q) L j))) ∧ Blk wr2 w.heap.size #[.int .i64 (k : Int), .slice (some ⟨bb, off, none⟩) rs.length c] 26 ∧ Below w.heap.size w wr2) (fun i _ => k - (intOf i).toNat)
            case atStart => exact ⟨0, Nat.zero_le _, rfl, Lib.hid (by rw [upF_zero]; exact BldI.by (by ((repeat (first | (with_reducible exact Below.refl _ _) | (with_reducible refine below_drewN ?_ _) | (with_reducible refine Below.drew ?_) | (with_reducible refine below_al ?_ _) | (with_reducible refine below_on (by assumption) ?_) | ((with_reducible refine Below.setCell ?_ ?_ _); rotate_left; focus (first | omega | (simp; done) | (simp; omega))) | (with_reducible assumption))); done)) HB.out), (by ((repeat (first | (with_reducible assumption) | (with_reducible refine Blk.drewN ?_ _) | (with_reducible refine Blk.drew ?_) | ((with_reducible refine Blk.new _ ?_); focus (first | omega | (simp; done) | (simp; omega))) | (with_reducible refine Blk.past ?_ _) | ((with_reducible refine Blk.apart ?_ _ _ _ ?_); rotate_left; focus (first | omega | (simp; done) | (simp; omega))) | (with_reducible refine Blk.by (by assumption) ?_))); done)), (by ((repeat (first | (with_reducible exact Below.refl _ _) | (with_reducible refine below_drewN ?_ _) | (with_reducible refine Below.drew ?_) | (with_reducible refine below_al ?_ _) | (with_reducible refine below_on (by assumption) ?_) | ((with_reducible refine Below.setCell ?_ ?_ _); rotate_left; focus (first | omega | (simp; done) | (simp; omega))) | (with_reducible assumption))); done))⟩
            case round =>
              clear HB kA hb qA lA hIs HC cp cq
              obtain ⟨j, hj, rfl, HB, kA, hb⟩ := hrel
              have qA := kA.cell
              have lA := kA.lt
              have hIs := HB.out.1
              by_cases hlt3 : j < k
              · obtain ⟨G2, cap2, cs2, hv2, hG2, hBk2, hcell2⟩ := HB.out.blk (by rw [length_labL]; omega)
                rw [length_labL] at hv2
                obtain ⟨rfl, rfl⟩ : G = G2 ∧ c' = cap2 := by simpa using hv2
                have cj := hcell2 j _ (labL_get _ hlt3)
                rw [upF_at] at cj
                have fG := hBk2.free
                have lG := hBk2.lt
                obtain ⟨x, hx⟩ : ∃ x, L j = x := ⟨_, rfl⟩
                rw [hx] at cj
                have HX := Lib.hid hx
                have l1 : (0 : Int) ≤ (j : Int) := by omega
                have l2 : (j : Int) < (k : Int) := by omega
                have hGA : w.heap.size < G := by omega
                clear hv2 hcell2 hBk2 hx
                by_cases hm2 : x = max y z
                · have hmb : ((x : Int) == max (y : Int) (z : Int)) = true := by rw [max_beq]; simpa using hm2
                  have HST := Lib.hid (show BldI (wr.setCell ⟨G, j, none⟩ (.int .i64 (if z < y then (z : Int) else (y : Int)))) (w.heap.size + 1) hi (.slice (some ⟨G, 0, none⟩) k c') (labL k (upF (mrgF L p q) L (j + 1))) from by
                    have e := upF_step (f := mrgF L p q) (g := L) hlt3 (y := min y z) (by unfold mrgF; rw [HX.out, HY.out, HZ.out, if_pos hm2])
                    have e2 : ((min y z : Nat) : Int) = (if z < y then (z : Int) else (y : Int)) := by split <;> omega
                    rw [e2] at e
                    rw [← e]
                    exact HB.out.setAt j _)
                  clear hm2
                  go_wp2_with (go_at_call 45; refine (HIm.out _).mono ?_; rintro e w' ⟨rfl, rfl⟩)
                  exact ⟨⟨j + 1, by omega, by go_num, HST, kA.apart _ _ _ (by omega), (by ((repeat (first | (with_reducible exact Below.refl _ _) | (with_reducible refine below_drewN ?_ _) | (with_reducible refine Below.drew ?_) | (with_reducible refine below_al ?_ _) | (with_reducible refine below_on (by assumption) ?_) | ((with_reducible refine Below.setCell ?_ ?_ _); rotate_left; focus (first | omega | (simp; done) | (simp; omega))) | (with_reducible assumption))); done))⟩, by simp [intOf]; omega⟩
                · have hmb : ((x : Int) == max (y : Int) (z : Int)) = false := by rw [max_beq]; simpa using hm2
                  have HST := Lib.hid (show BldI wr (w.heap.size + 1) hi (.slice (some ⟨G, 0, none⟩) k c') (labL k (upF (mrgF L p q) L (j + 1))) from by
                    rw [upF_same (by unfold mrgF; rw [HX.out, HY.out, HZ.out, if_neg hm2])]
                    exact HB.out)
                  clear hm2
                  go_wp2_with (go_at_call 45; refine (HIm.out _).mono ?_; rintro e w' ⟨rfl, rfl⟩)
                  exact ⟨⟨j + 1, by omega, by go_num, HST, kA, hb⟩, by simp [intOf]; omega⟩
              · obtain rfl : j = k := by omega
                have l2 : ¬ (j : Int) < (j : Int) := by omega
                have HST := Lib.hid (show BldI wr (w.heap.size + 1) hi (.slice (some ⟨G, 0, none⟩) j c') (labL j (selF (edg rs) (bit s) (m + 1))) from by
                  rw [selF_on HBT.out, HE.out, HLE.out]
                  have := HB.out
                  rwa [upF_all] at this)
                go_wp2
                exact ⟨⟨m + 1, by omega, by go_num, HST, kA, hb⟩, by simp [intOf]; omega⟩
          · rw [hbf] at HIm
            have HST := fun w' (hb' : Below wr.heap.size wr w') => (show BldI w' (w.heap.size + 1) hi (.slice (some ⟨G, 0, none⟩) k c') (labL k (selF (edg rs) (bit s) (m + 1))) from by
              rw [selF_off (by rw [hbf]; decide), HLE.out]
              exact BldI.by hb' HB.out)
            have HS2 := Lib.hid HST
            clear HST hbf
            go_wp2
            go_quiet (fail)
            go_wp2
            obtain ⟨wo2, rfl⟩ : ∃ wo, wo = wr := ⟨_, rfl⟩
            go_loopw [10] (fun i wr2 => i = .int .i64 0 ∧ Hid (BldI wr2 (w.heap.size + 1) hi (.slice (some ⟨G, 0, none⟩) k c') (labL k (selF (edg rs) (bit s) (m + 1)))) ∧ Blk wr2 w.heap.size #[.int .i64 (k : Int), .slice (some ⟨bb, off, none⟩) rs.length c] 26 ∧ Below w.heap.size w wr2) (fun i _ => 0)
            case atStart => exact ⟨rfl, Lib.hid (HS2.out _ (by ((repeat (first | (with_reducible exact Below.refl _ _) | (with_reducible refine below_drewN ?_ _) | (with_reducible refine Below.drew ?_) | (with_reducible refine below_al ?_ _) | (with_reducible refine below_on (by assumption) ?_) | ((with_reducible refine Below.setCell ?_ ?_ _); rotate_left; focus (first | omega | (simp; done) | (simp; omega))) | (with_reducible assumption))); done))), (by ((repeat (first | (with_reducible assumption) | (with_reducible refine Blk.drewN ?_ _) | (with_reducible refine Blk.drew ?_) | ((with_reducible refine Blk.new _ ?_); focus (first | omega | (simp; done) | (simp; omega))) | (with_reducible refine Blk.past ?_ _) | ((with_reducible refine Blk.apart ?_ _ _ _ ?_); rotate_left; focus (first | omega | (simp; done) | (simp; omega))) | (with_reducible refine Blk.by (by assumption) ?_))); done)), (by ((repeat (first | (with_reducible exact Below.refl _ _) | (with_reducible refine below_drewN ?_ _) | (with_reducible refine Below.drew ?_) | (with_reducible refine below_al ?_ _) | (with_reducible refine below_on (by assumption) ?_) | ((with_reducible refine Below.setCell ?_ ?_ _); rotate_left; focus (first | omega | (simp; done) | (simp; omega))) | (with_reducible assumption))); done))⟩
            case round =>
              clear HB kA hb qA lA hIs HC cp cq HS2
              obtain ⟨rfl, HB, kA, hb⟩ := hrel
              have qA := kA.cell
              have k1 : (0 : Int) < (k : Int) := by omega
              go_wp2_with (go_at_call 45; refine (HIm.out _).mono ?_; rintro e w' ⟨rfl, rfl⟩)
              exact ⟨⟨m + 1, by omega, by go_num, HB, kA, hb⟩, by simp [intOf]; omega⟩
        · obtain rfl : m = rs.length := by omega
          have i2 : ¬ (rs.length : Int) < (rs.length : Int) := by omega
          have hs := HB.out
          have HB2 := Lib.hid (show BldI wr w.heap.size wr.heap.size (.slice a' k c') (labL k (selF (edg rs) (bit s) rs.length)) from hs.wide (by omega) hIs (Nat.le_refl _))
          clear hs HB
          go_wp2
          go_ret
          exact ⟨_, rfl, HB2.out, hb⟩
end Go.Proofs.Ytjolkdckhmmenaa
