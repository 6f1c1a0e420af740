/- l26Sums: the reference's sums over forests. -/
import Derived.Test.YtjolkdckhmmenaaPartW
namespace Go.Proofs.Ytjolkdckhmmenaa
open Go.RowKit
set_option linter.unusedVariables false
set_option linter.unusedSimpArgs false

/-- A block of n numbers, told by a function. -/
def FBlk (w : World) (g n : Nat) (f : Nat → Int) : Prop := ∃ cs : Array Value, Blk w g cs 2 ∧ cs.size = n ∧ ∀ i, i < n → cs[i]? = some (Value.int .i64 (f i))
section
variable {w w' : World} {g n : Nat} {f : Nat → Int}
theorem FBlk.by (hb : Below w.heap.size w w') (h : FBlk w g n f) : FBlk w' g n f := by obtain ⟨cs, h1, h2⟩ := h; exact ⟨cs, Blk.by hb h1, h2⟩
theorem FBlk.past (h : FBlk w g n f) (o : Obj) : FBlk (w.alloc o) g n f := by obtain ⟨cs, h1, h2⟩ := h; exact ⟨cs, h1.past o, h2⟩
theorem FBlk.drewN (h : FBlk w g n f) (k : Nat) : FBlk (w.drewN k) g n f := by obtain ⟨cs, h1, h2⟩ := h; exact ⟨cs, h1.drewN k, h2⟩
theorem FBlk.lt (h : FBlk w g n f) : g < w.heap.size := by obtain ⟨cs, h1, h2⟩ := h; exact h1.lt
theorem FBlk.free (h : FBlk w g n f) : ∀ o, w.frozen? ⟨g, o, none⟩ = false := by obtain ⟨cs, h1, h2⟩ := h; exact h1.free
theorem FBlk.at (h : FBlk w g n f) {i : Nat} (hi : i < n) : w.cell? ⟨g, i, none⟩ = some (.int .i64 (f i)) := by obtain ⟨cs, h1, h2, h3⟩ := h; rw [h1.cell]; exact h3 i hi
theorem FBlk.set (h : FBlk w g n f) {j : Nat} {y : Int} {f' : Nat → Int} (hj : j < n) (hy : f' j = y) (hf : ∀ i, i ≠ j → f' i = f i) : FBlk (w.setCell ⟨g, j, none⟩ (.int .i64 y)) g n f' := by
  obtain ⟨cs, h1, h2, h3⟩ := h
  refine ⟨_, h1.set j _, by simpa using h2, fun i hi => ?_⟩
  by_cases e : i = j
  · subst e; rw [hy]; simp [Array.getElem?_setIfInBounds, h2, hi]
  · rw [hf i e, ← h3 i hi]
    have e' : ¬ j = i := fun q => e q.symm
    simp [Array.getElem?_setIfInBounds, e']
theorem FBlk.congr (h : FBlk w g n f) {f' : Nat → Int} (hf : ∀ i, i < n → f' i = f i) : FBlk w g n f' := by
  obtain ⟨cs, h1, h2, h3⟩ := h
  exact ⟨cs, h1, h2, fun i hi => by rw [hf i hi]; exact h3 i hi⟩
theorem FBlk.own (h : FBlk w g n f) (hn : n ≤ 1048576) : OwnR w g (g + 1) (.slice (some ⟨g, 0, none⟩) n n) ((List.range n).map f) := by
  obtain ⟨cs, h1, h2, h3⟩ := h
  refine .inr ⟨g, n, cs, by simp, Nat.le_refl _, Nat.lt_succ_self _, by simp, by unfold maxLen; omega, h1, fun i x hx => ?_⟩
  have hi : i < n := by have := (List.getElem?_eq_some_iff.1 hx).1; simpa using this
  rw [h3 i hi]
  simp [hi] at hx
  rw [hx]
end
/-- What the sums want of a part. -/
def PtOk (n : Nat) (rs : List Res) : Prop := NwOk n rs ∧ (netP n rs).Ok ∧ mxF (rnm rs) (rdn rs) rs.length ≤ 10000000000000000
theorem PtOk.sum {n : Nat} {rs : List Res} (h : PtOk n rs) {f : Nat → Int} {k : Nat} (hk : k ≤ 2 ^ rs.length) (hf : ∀ i, 0 ≤ f i ∧ f i ≤ mxF (rnm rs) (rdn rs) rs.length) : 0 ≤ sumF f k ∧ sumF f k ≤ 2560000000000000000 := by
  obtain ⟨⟨_, h8, _⟩, _, hm⟩ := h
  have p := pow_small h8
  refine ⟨sumF_nn (fun i _ => (hf i).1), ?_⟩
  have a := sumF_le (f := f) (B := 10000000000000000) (k := k) (fun i _ => by have := hf i; omega)
  omega
/-- Half way through the nodes. -/
def upZ (f g : Nat → Int) (j : Nat) : Nat → Int := fun v => if v < j then f v else g v

set_option maxRecDepth 100000 in
set_option maxHeartbeats 16000000 in
theorem l26Sums_any (n : Nat) (rs : List Res) (a b : Nat) (v : Value) (w : World) (h : NwV w v ⟨n, rs⟩) (hok : PtOk n rs) (ha : a < n) (hb0 : b < n) :
    Calls Try.prog 30 #[v, .int .i64 (a : Int), .int .i64 (b : Int)] w fun e w' => ∃ g, e = .returned (.tuple #[.int .i64 (netP n rs).tot, .slice (some ⟨g, 0, none⟩) n n]) ∧ FBlk w' g n ((netP n rs).top a b) ∧ w.heap.size ≤ g ∧ Below w.heap.size w w' := by
  have hpw := pow_small hok.1.2.1
  have HOK := Lib.hid hok
  have HT := Lib.hid (fun (s : Nat) (hs : s < 256) v w (h : NwV w v ⟨n, rs⟩) => show Calls Try.prog 40 #[v, .int .i64 (s : Int)] w fun e w' => ∃ v', e = .returned v' ∧ BldI w' w.heap.size w'.heap.size v' (labL n ((netP n rs).L s)) ∧ Below w.heap.size w w' from l26Trees_any n rs s v w h HOK.out.1 hs)
  have HT0 := Lib.hid (fun (z : Int) (hz : z = ((2 ^ rs.length - 1 : Nat) : Int)) v w (h : NwV w v ⟨n, rs⟩) => show Calls Try.prog 40 #[v, .int .i64 z] w fun e w' => ∃ v', e = .returned v' ∧ BldI w' w.heap.size w'.heap.size v' (labL n (netP n rs).all) ∧ Below w.heap.size w w' from by have q := l26Trees_any n rs (2 ^ rs.length - 1) v w h HOK.out.1 (by omega); rw [sel_all, ← hz] at q; exact q)
  have HWT := Lib.hid (fun (s : Nat) (hs : s < 256) v w (h : NwV w v ⟨n, rs⟩) => show Calls Try.prog 42 #[v, .int .i64 (s : Int)] w fun e w' => e = .returned (.tuple #[.int .i64 ((netP n rs).wt s), .int .i64 ((netP n rs).cnt s : Nat)]) ∧ Below w.heap.size w w' from l26Weight_any n rs s v w h HOK.out.1.2.1 hs HOK.out.2.1.pos HOK.out.2.2)
  have HRT := Lib.hid (fun (s : Nat) v w (h : IntSl w v (labL n ((netP n rs).L s))) => show Calls Try.prog 41 #[v] w fun e w' => e = .returned (.int .i64 ((netP n rs).roots s : Nat)) ∧ w = w' from l26Roots_any n ((netP n rs).L s) v w h HOK.out.1.1 (fun i hi => Nat.lt_of_le_of_lt (selF_le _ _ _ _) hi))
  have HR0 := Lib.hid (fun v w (h : IntSl w v (labL n (netP n rs).all)) => show Calls Try.prog 41 #[v] w fun e w' => e = .returned (.int .i64 ((netP n rs).least : Nat)) ∧ w = w' from l26Roots_any n (netP n rs).all v w h HOK.out.1.1 (fun i hi => Nat.lt_of_le_of_lt (selF_le _ _ _ _) hi))
  have hWB : ∀ s, 1 ≤ (netP n rs).wt s ∧ (netP n rs).wt s ≤ 10000000000000000 := fun s => by
    have q := Pn.wt_bd hok.2.1 s
    have := hok.2.2
    exact ⟨q.1, Int.le_trans q.2 this⟩
  have hTB : ∀ k, k ≤ 2 ^ rs.length → 0 ≤ sumF (netP n rs).tF k ∧ sumF (netP n rs).tF k ≤ 2560000000000000000 := fun k hk => hok.sum hk (fun s => Pn.tF_bd hok.2.1 s)
  have hGB : ∀ u k, k ≤ 2 ^ rs.length → 0 ≤ sumF ((netP n rs).gF a b u) k ∧ sumF ((netP n rs).gF a b u) k ≤ 2560000000000000000 := fun u k hk => hok.sum hk (fun s => Pn.gF_bd hok.2.1 a b u s)
  have hRL : ∀ s, (netP n rs).roots s ≤ n := fun s => rootsF_le _ _
  have hCL : ∀ s, (netP n rs).cnt s ≤ 8 := fun s => Nat.le_trans (cntF_le _ _) hok.1.2.1
  have hLL : (netP n rs).least ≤ n := rootsF_le _ _
  have HWB := Lib.hid hWB
  have HTB := Lib.hid hTB
  have HGB := Lib.hid hGB
  have HRL := Lib.hid hRL
  have HCL := Lib.hid hCL
  have HTT := Lib.hid (show (netP n rs).tot = sumF (netP n rs).tF (2 ^ rs.length) from rfl)
  have HTP := Lib.hid (fun u => show (netP n rs).top a b u = sumF ((netP n rs).gF a b u) (2 ^ rs.length) from rfl)
  have HTR := Lib.hid (fun s => show (netP n rs).treeB s = true ↔ (netP n rs).roots s + (netP n rs).cnt s = n ∧ (netP n rs).roots s = (netP n rs).least from by unfold Pn.treeB; rw [Bool.and_eq_true, decide_eq_true_eq, decide_eq_true_eq]; exact Iff.rfl)
  have HTW := Lib.hid (fun u s => show (netP n rs).twoB a b u s = true ↔ ((netP n rs).roots s + (netP n rs).cnt s = n ∧ (netP n rs).roots s = (netP n rs).least + 1) ∧ ((netP n rs).L s a ≠ (netP n rs).L s b ∧ (netP n rs).L s u = (netP n rs).L s a) from by unfold Pn.twoB; rw [Bool.and_eq_true, Bool.and_eq_true, Bool.and_eq_true, decide_eq_true_eq, decide_eq_true_eq, Bool.not_eq_true', beq_eq_false_iff_ne, beq_iff_eq, and_assoc]; exact Iff.rfl)
  obtain ⟨⟨hn6, hr8, _⟩, _⟩ := hok
  generalize netP n rs = P at *
  have hF1 := full_pow rs.length (by omega)
  obtain ⟨K, hK⟩ : ∃ K : Nat, 2 ^ rs.length = K := ⟨_, rfl⟩
  rw [hK] at hpw hF1 HTT HTB HGB HT0
  have HTP' := Lib.hid (fun u => (HTP.out u).trans (by rw [hK]))
  have HKK := Lib.hid hK
  have hKw : wrap64 ((K : Int) - 1) = (K : Int) - 1 := by simp [wrap64, IntKind.wrap, IntKind.bits, IntKind.signed]; omega
  have HV := Lib.hid h
  obtain ⟨a0, c0, rfl⟩ := h.sized
  clear h hWB hTB hGB hRL hCL hK
  obtain ⟨cs0, hcs0, hcz, hmk⟩ := make_ints n (by omega) (w.alloc (.cells #[.int .i64 (n : Int), .slice a0 rs.length c0] 26))
  go_enter Try.func30, Try.ntmps30
  go_wp2_with fail
  have kA : Blk ((w.alloc (.cells #[.int .i64 (n : Int), .slice a0 rs.length c0] 26)).alloc (.cells cs0 2)) w.heap.size #[.int .i64 (n : Int), .slice a0 rs.length c0] 26 := (by ((repeat (first | (with_reducible assumption) | (with_reducible refine Blk.drewN ?_ _) | (with_reducible refine Blk.drew ?_) | ((with_reducible refine Blk.new _ ?_); focus (first | omega | (simp; done) | (simp; omega))) | (with_reducible refine Blk.past ?_ _) | ((with_reducible refine Blk.apart ?_ _ _ _ ?_); rotate_left; focus (first | omega | (simp; done) | (simp; omega))) | (with_reducible refine Blk.by (by assumption) ?_))); done))
  have hF0 : FBlk ((w.alloc (.cells #[.int .i64 (n : Int), .slice a0 rs.length c0] 26)).alloc (.cells cs0 2)) (w.heap.size + 1) n (fun u => sumF (P.gF a b u) 0) := ⟨cs0, Blk.new _ (by simp), hcs0, hcz⟩
  have hW : Below w.heap.size w ((w.alloc (.cells #[.int .i64 (n : Int), .slice a0 rs.length c0] 26)).alloc (.cells cs0 2)) := (by ((repeat (first | (with_reducible exact Below.refl _ _) | (with_reducible refine below_drewN ?_ _) | (with_reducible refine Below.drew ?_) | (with_reducible refine below_al ?_ _) | (with_reducible refine below_on (by assumption) ?_) | ((with_reducible refine Below.setCell ?_ ?_ _); rotate_left; focus (first | omega | (simp; done) | (simp; omega))) | (with_reducible assumption))); done))
  have HF0 := Lib.hid hF0
  clear hmk hcz hF0
  refine (HT0.out _ (by omega) _ _ (HV.out.by hW)).mono ?_
  rintro e w1 ⟨v1, rfl, hB1, hb1⟩
  have HI1 := Lib.hid hB1.own.sl
  obtain ⟨a1, c1, rfl⟩ := hB1.sized
  rw [length_labL] at HI1 ⊢
  replace kA := Blk.by hb1 kA
  replace HF0 := Lib.hid (HF0.out.by hb1)
  replace hW := below_on hb1 hW
  clear hB1 hb1
  have qA := kA.cell
  have lA := kA.lt
  go_wp2_with fail
  refine (HR0.out _ _ HI1.out).mono ?_
  rintro e w1' ⟨rfl, rfl⟩
  clear HI1 HR0 HT0
  go_wp2
  obtain ⟨Z, hZ⟩ : ∃ Z, P.least = Z := ⟨_, rfl⟩
  rw [hZ] at hLL HTR HTW ⊢
  go_loopw [8, 11] (fun u i wr => ∃ (s : Nat), s ≤ K ∧ i = .int .i64 (s : Int) ∧ u = .int .i64 (sumF P.tF s) ∧ Hid (FBlk wr (w.heap.size + 1) n (fun x => sumF (P.gF a b x) s)) ∧ Blk wr w.heap.size #[.int .i64 (n : Int), .slice a0 rs.length c0] 26 ∧ Below w.heap.size w wr) (fun _ i _ => K - (intOf i).toNat)
  case atStart => exact ⟨0, Nat.zero_le _, rfl, rfl, HF0, kA, hW⟩
  case round =>
    clear kA HF0 hW qA lA
    obtain ⟨s, hs, rfl, rfl, HF, kA, hb⟩ := hrel
    have qA := kA.cell
    have lA := kA.lt
    by_cases hlt : s < K
    · have hsum := HTB.out (s + 1) (by omega)
      have hsum0 := HTB.out s (by omega)
      obtain ⟨S0, hS0⟩ : ∃ S0, sumF P.tF s = S0 := ⟨_, rfl⟩
      have hsn : sumF P.tF (s + 1) = S0 + P.tF s := by rw [← hS0]; rfl
      rw [hS0] at hsum0 ⊢
      rw [hsn] at hsum
      have HSN := Lib.hid hsn
      have hFl0 := HF.out.lt
      have i1 : (s : Int) < (K : Int) := by omega
      clear hsn hS0
      have HNV : Hid (NwV wr (.agg #[.int .i64 (n : Int), .slice a0 rs.length c0]) ⟨n, rs⟩) := Lib.hid (HV.out.by hb)
      go_wp2_with fail
      refine (HT.out s (by omega) _ _ HNV.out).mono ?_
      rintro e w2 ⟨v2, rfl, hB2, hb2⟩
      obtain ⟨G, cap2, cs2, hv2, hG2, hBk2, hcell2⟩ := hB2.blk (by rw [length_labL]; omega)
      rw [length_labL] at hv2
      subst hv2
      have HI2 := Lib.hid hB2.own.sl
      replace kA := Blk.by hb2 kA
      replace HF := Lib.hid (HF.out.by hb2)
      replace HNV := Lib.hid (HNV.out.by hb2)
      replace hb := below_on hb2 hb
      have HC2 := Lib.hid (fun i (hi : i < n) => show cs2[i]? = some (.int .i64 ((P.L s i : Nat) : Int)) from by rw [← hBk2.cell]; exact hcell2 i _ (labL_get _ hi))
      have hFl := HF.out.lt
      have hGF : w.heap.size + 1 < G := by have := hb2.size; omega
      clear hB2 hb2 hcell2 hG2 qA lA
      have qA := kA.cell
      have lA := kA.lt
      go_wp2_with fail
      refine (HWT.out s (by omega) _ _ HNV.out).mono ?_
      rintro e w3 ⟨rfl, hb3⟩
      replace kA := Blk.by hb3 kA
      replace HF := Lib.hid (HF.out.by hb3)
      replace hBk2 := Blk.by hb3 hBk2
      replace HI2 := Lib.hid (HI2.out.by hb3)
      replace hb := below_on hb3 hb
      clear hb3 qA lA HNV
      have qA := kA.cell
      have lA := kA.lt
      go_wp2_with fail
      refine (HRT.out s _ _ HI2.out).mono ?_
      rintro e w3' ⟨rfl, rfl⟩
      clear HI2
      obtain ⟨hw1, hw2⟩ := HWB.out s
      have hrl := HRL.out s
      have hcl := HCL.out s
      have HTRs := Lib.hid (HTR.out s)
      have HTWs := Lib.hid (fun u => HTW.out u s)
      obtain ⟨W, hWe⟩ : ∃ W, P.wt s = W := ⟨_, rfl⟩
      have HTY := Lib.hid (fun h => show P.tF s = W from by rw [← hWe]; exact tF_yes h)
      have HGY := Lib.hid (fun u h => show P.gF a b u s = W from by rw [← hWe]; exact gF_yes h)
      obtain ⟨R, hR⟩ : ∃ R, P.roots s = R := ⟨_, rfl⟩
      obtain ⟨C, hC⟩ : ∃ C, P.cnt s = C := ⟨_, rfl⟩
      obtain ⟨ya, hya⟩ : ∃ y, P.L s a = y := ⟨_, rfl⟩
      obtain ⟨yb, hyb⟩ : ∃ y, P.L s b = y := ⟨_, rfl⟩
      rw [hR, hC] at HTRs HTWs
      rw [hya, hyb] at HTWs
      rw [hWe] at hw1 hw2 ⊢
      rw [hR] at hrl ⊢
      rw [hC] at hcl ⊢
      have cya : cs2[a]? = some (.int .i64 (ya : Int)) := by have := HC2.out a ha; rw [hya] at this; exact this
      have cyb : cs2[b]? = some (.int .i64 (yb : Int)) := by have := HC2.out b hb0; rw [hyb] at this; exact this
      have la : w3.cell? ⟨G, a, none⟩ = some (.int .i64 (ya : Int)) := by rw [hBk2.cell]; exact cya
      have lb : w3.cell? ⟨G, b, none⟩ = some (.int .i64 (yb : Int)) := by rw [hBk2.cell]; exact cyb
      have HGZ := Lib.hid (fun u => show sumF (P.gF a b u) (s + 1) = sumF (P.gF a b u) s + P.gF a b u s from rfl)
      have HGN := Lib.hid (fun u (h : ¬ P.twoB a b u s = true) => show P.gF a b u s = 0 from gF_no h)
      have HTN := Lib.hid (fun (h : ¬ P.treeB s = true) => show P.tF s = 0 from tF_no h)
      have j1 : (0 : Int) ≤ (a : Int) := by omega
      have j2 : (a : Int) < (n : Int) := by omega
      have j3 : (0 : Int) ≤ (b : Int) := by omega
      have j4 : (b : Int) < (n : Int) := by omega
      have k0 : (0 : Int) < (n : Int) := by omega
      have k00 : decide (0 < n) = true := decide_eq_true (by omega)
      have CYA := Lib.hid cya
      have CYB := Lib.hid cyb
      clear hWe hR hC hya hyb cya cyb
      by_cases hc : R + C = n
      · have hcb : ((C : Int) != (n : Int) - (R : Int)) = false := by simp; omega
        have hwz : IntKind.i64.wrap ((Z : Int) + 1) = (Z : Int) + 1 := by simp [IntKind.wrap, IntKind.bits, IntKind.signed]; omega
        by_cases hz : R = Z
        · have hzb : ((R : Int) == (Z : Int)) = true := by simp; omega
          have hzc : ((R : Int) == (Z : Int) + 1) = false := by simp; omega
          have et := HTY.out (HTRs.out.2 ⟨hc, hz⟩)
          have HET := Lib.hid et
          rw [et] at hsum
          have HFN := Lib.hid (show FBlk w3 (w.heap.size + 1) n (fun x => sumF (P.gF a b x) (s + 1)) from HF.out.congr (fun u _ => by
            show sumF (P.gF a b u) (s + 1) = sumF (P.gF a b u) s
            rw [HGZ.out, HGN.out u (fun q => by have := ((HTWs.out u).1 q).1; omega), Int.add_zero]))
          clear hc hz et
          go_wp2
          go_loopw [16] (fun i wr2 => i = .int .i64 0 ∧ wr2 = w3) (fun _ _ => 0)
          case atStart => exact ⟨rfl, rfl⟩
          case round =>
            obtain ⟨rfl, rfl⟩ := hrel
            go_wp2
            go_quiet (fail)
            go_wp2
            exact ⟨⟨s + 1, by omega, by go_num, by rw [HSN.out, HET.out], Lib.hid (HFN.out.by (by ((repeat (first | (with_reducible exact Below.refl _ _) | (with_reducible refine below_drewN ?_ _) | (with_reducible refine Below.drew ?_) | (with_reducible refine below_al ?_ _) | (with_reducible refine below_on (by assumption) ?_) | ((with_reducible refine Below.setCell ?_ ?_ _); rotate_left; focus (first | omega | (simp; done) | (simp; omega))) | (with_reducible assumption))); done))), (by ((repeat (first | (with_reducible assumption) | (with_reducible refine Blk.drewN ?_ _) | (with_reducible refine Blk.drew ?_) | ((with_reducible refine Blk.new _ ?_); focus (first | omega | (simp; done) | (simp; omega))) | (with_reducible refine Blk.past ?_ _) | ((with_reducible refine Blk.apart ?_ _ _ _ ?_); rotate_left; focus (first | omega | (simp; done) | (simp; omega))) | (with_reducible refine Blk.by (by assumption) ?_))); done)), (by ((repeat (first | (with_reducible exact Below.refl _ _) | (with_reducible refine below_drewN ?_ _) | (with_reducible refine Below.drew ?_) | (with_reducible refine below_al ?_ _) | (with_reducible refine below_on (by assumption) ?_) | ((with_reducible refine Below.setCell ?_ ?_ _); rotate_left; focus (first | omega | (simp; done) | (simp; omega))) | (with_reducible assumption))); done))⟩, by simp [intOf]; omega⟩
        · have hzb : ((R : Int) == (Z : Int)) = false := by simp; omega
          have et := HTN.out (fun q => hz (HTRs.out.1 q).2)
          have HET := Lib.hid et
          clear hsum
          by_cases hz1 : R = Z + 1
          · have hzc : ((R : Int) == (Z : Int) + 1) = true := by simp; omega
            by_cases hab : ya = yb
            · have hne : ((ya : Int) != (yb : Int)) = false := by simp; omega
              have HFN := Lib.hid (show FBlk w3 (w.heap.size + 1) n (fun x => sumF (P.gF a b x) (s + 1)) from HF.out.congr (fun u _ => by
                show sumF (P.gF a b u) (s + 1) = sumF (P.gF a b u) s
                rw [HGZ.out, HGN.out u (fun q => ((HTWs.out u).1 q).2.1 hab), Int.add_zero]))
              clear hc hz et hz1 hab
              go_wp2
              go_loopw [16] (fun i wr2 => i = .int .i64 0 ∧ wr2 = w3) (fun _ _ => 0)
              case atStart => exact ⟨rfl, rfl⟩
              case round =>
                obtain ⟨rfl, rfl⟩ := hrel
                go_wp2
                go_quiet (fail)
                go_wp2
                exact ⟨⟨s + 1, by omega, by go_num, by rw [HSN.out, HET.out]; go_num, Lib.hid (HFN.out.by (by ((repeat (first | (with_reducible exact Below.refl _ _) | (with_reducible refine below_drewN ?_ _) | (with_reducible refine Below.drew ?_) | (with_reducible refine below_al ?_ _) | (with_reducible refine below_on (by assumption) ?_) | ((with_reducible refine Below.setCell ?_ ?_ _); rotate_left; focus (first | omega | (simp; done) | (simp; omega))) | (with_reducible assumption))); done))), (by ((repeat (first | (with_reducible assumption) | (with_reducible refine Blk.drewN ?_ _) | (with_reducible refine Blk.drew ?_) | ((with_reducible refine Blk.new _ ?_); focus (first | omega | (simp; done) | (simp; omega))) | (with_reducible refine Blk.past ?_ _) | ((with_reducible refine Blk.apart ?_ _ _ _ ?_); rotate_left; focus (first | omega | (simp; done) | (simp; omega))) | (with_reducible refine Blk.by (by assumption) ?_))); done)), (by ((repeat (first | (with_reducible exact Below.refl _ _) | (with_reducible refine below_drewN ?_ _) | (with_reducible refine Below.drew ?_) | (with_reducible refine below_al ?_ _) | (with_reducible refine below_on (by assumption) ?_) | ((with_reducible refine Below.setCell ?_ ?_ _); rotate_left; focus (first | omega | (simp; done) | (simp; omega))) | (with_reducible assumption))); done))⟩, by simp [intOf]; omega⟩
            · have hne : ((ya : Int) != (yb : Int)) = true := by simp; omega
              have HAB := Lib.hid hab
              have HCC := Lib.hid (show R + C = n ∧ R = Z + 1 from ⟨hc, hz1⟩)
              clear hc hz et hz1 hab la lb
              go_wp2
              go_loopw [16] (fun i wr2 => ∃ (u : Nat), u ≤ n ∧ i = .int .i64 (u : Int) ∧ Hid (FBlk wr2 (w.heap.size + 1) n (upZ (fun x => sumF (P.gF a b x) (s + 1)) (fun x => sumF (P.gF a b x) s) u)) ∧ Blk wr2 G cs2 2 ∧ Blk wr2 w.heap.size #[.int .i64 (n : Int), .slice a0 rs.length c0] 26 ∧ Below w.heap.size w wr2) (fun i _ => n - (intOf i).toNat)
              case atStart => exact ⟨0, Nat.zero_le _, rfl, Lib.hid (HF.out.congr (fun u _ => by unfold upZ; rw [if_neg (by omega)])), hBk2, kA, hb⟩
              case round =>
                clear HF hBk2 kA hb qA lA
                obtain ⟨u, hu, rfl, HF, hBk, kA, hb⟩ := hrel
                have qA := kA.cell
                have lA := kA.lt
                have la : wr.cell? ⟨G, a, none⟩ = some (.int .i64 (ya : Int)) := by rw [hBk.cell]; exact CYA.out
                have lb : wr.cell? ⟨G, b, none⟩ = some (.int .i64 (yb : Int)) := by rw [hBk.cell]; exact CYB.out
                by_cases hlt2 : u < n
                · have k1 : decide (u < n) = true := decide_eq_true hlt2
                  have k2 : (u : Int) < (n : Int) := by omega
                  have k3 : (0 : Int) ≤ (u : Int) := by omega
                  obtain ⟨yu, hyu⟩ : ∃ y, P.L s u = y := ⟨_, rfl⟩
                  have lu : wr.cell? ⟨G, u, none⟩ = some (.int .i64 (yu : Int)) := by rw [hBk.cell]; have := HC2.out u hlt2; rw [hyu] at this; exact this
                  have cF := HF.out.at hlt2
                  have fF := HF.out.free
                  have lF := HF.out.lt
                  have eU : upZ (fun x => sumF (P.gF a b x) (s + 1)) (fun x => sumF (P.gF a b x) s) u u = sumF (P.gF a b u) s := by unfold upZ; rw [if_neg (by omega)]
                  rw [eU] at cF
                  have hg1 := HGB.out u (s + 1) (by omega)
                  have hg0 := HGB.out u s (by omega)
                  rw [HGZ.out] at hg1
                  obtain ⟨S1, hS1⟩ : ∃ S1, sumF (P.gF a b u) s = S1 := ⟨_, rfl⟩
                  rw [hS1] at cF hg1 hg0
                  have HS1 := Lib.hid hS1
                  have HYU := Lib.hid hyu
                  clear hyu eU hS1
                  by_cases hya : yu = ya
                  · have hyab : ((yu : Int) == (ya : Int)) = true := by simp; omega
                    have eg := HGY.out u ((HTWs.out u).2 ⟨HCC.out, HAB.out, by rw [HYU.out]; exact hya⟩)
                    rw [eg] at hg1
                    have HEG := Lib.hid eg
                    have hws : IntKind.i64.wrap (S1 + W) = S1 + W := by simp [IntKind.wrap, IntKind.bits, IntKind.signed]; omega
                    have HST := Lib.hid (show FBlk (wr.setCell ⟨w.heap.size + 1, u, none⟩ (.int .i64 (S1 + W))) (w.heap.size + 1) n (upZ (fun x => sumF (P.gF a b x) (s + 1)) (fun x => sumF (P.gF a b x) s) (u + 1)) from HF.out.set hlt2 (by unfold upZ; rw [if_pos (by omega)]; show sumF (P.gF a b u) (s + 1) = _; rw [HGZ.out, HS1.out, HEG.out]) (fun i hi => by
                      unfold upZ
                      by_cases l : i < u
                      · rw [if_pos (by omega), if_pos l]
                      · rw [if_neg (by omega), if_neg l]))
                    have HST2 := Lib.hid (fun k => show FBlk ((wr.drewN k).setCell ⟨w.heap.size + 1, u, none⟩ (.int .i64 (S1 + W))) (w.heap.size + 1) n (upZ (fun x => sumF (P.gF a b x) (s + 1)) (fun x => sumF (P.gF a b x) s) (u + 1)) from HST.out)
                    clear hya eg
                    go_wp2
                    go_quiet (fail)
                    go_wp2
                    go_quiet (fail)
                    go_wp2
                    exact ⟨⟨u + 1, by omega, by go_num, Lib.hid (HST2.out _), Blk.apart (hBk.drewN _) _ _ _ (by omega), Blk.apart (kA.drewN _) _ _ _ (by omega), (below_drewN hb _).setCell (by simp) _⟩, by simp [intOf]; omega⟩
                  · have hyab : ((yu : Int) == (ya : Int)) = false := by simp; omega
                    have eg := HGN.out u (fun q => by have := ((HTWs.out u).1 q).2.2; rw [HYU.out] at this; exact hya this)
                    have HEG := Lib.hid eg
                    have HST := Lib.hid (show FBlk wr (w.heap.size + 1) n (upZ (fun x => sumF (P.gF a b x) (s + 1)) (fun x => sumF (P.gF a b x) s) (u + 1)) from HF.out.congr (fun i hi => by
                      unfold upZ
                      by_cases l : i < u
                      · rw [if_pos (by omega), if_pos l]
                      · by_cases e : i = u
                        · subst e; rw [if_pos (by omega), if_neg (by omega)]; show sumF (P.gF a b i) (s + 1) = _; rw [HGZ.out, HEG.out, Int.add_zero]
                        · rw [if_neg (by omega), if_neg l]))
                    clear hya eg
                    go_wp2
                    go_quiet (fail)
                    go_wp2
                    go_quiet (fail)
                    go_wp2
                    exact ⟨⟨u + 1, by omega, by go_num, Lib.hid (HST.out.drewN _), hBk.drewN _, kA.drewN _, below_drewN hb _⟩, by simp [intOf]; omega⟩
                · obtain rfl : u = n := by omega
                  have k1 : decide (u < u) = false := by simp
                  have k2 : ¬ (u : Int) < (u : Int) := by omega
                  have HFN := Lib.hid (show FBlk wr (w.heap.size + 1) u (fun x => sumF (P.gF a b x) (s + 1)) from HF.out.congr (fun i hi => by unfold upZ; rw [if_pos hi]))
                  go_wp2
                  go_quiet (fail)
                  go_wp2
                  exact ⟨⟨s + 1, by omega, by go_num, by rw [HSN.out, HET.out]; go_num, Lib.hid (HFN.out.by (by ((repeat (first | (with_reducible exact Below.refl _ _) | (with_reducible refine below_drewN ?_ _) | (with_reducible refine Below.drew ?_) | (with_reducible refine below_al ?_ _) | (with_reducible refine below_on (by assumption) ?_) | ((with_reducible refine Below.setCell ?_ ?_ _); rotate_left; focus (first | omega | (simp; done) | (simp; omega))) | (with_reducible assumption))); done))), (by ((repeat (first | (with_reducible assumption) | (with_reducible refine Blk.drewN ?_ _) | (with_reducible refine Blk.drew ?_) | ((with_reducible refine Blk.new _ ?_); focus (first | omega | (simp; done) | (simp; omega))) | (with_reducible refine Blk.past ?_ _) | ((with_reducible refine Blk.apart ?_ _ _ _ ?_); rotate_left; focus (first | omega | (simp; done) | (simp; omega))) | (with_reducible refine Blk.by (by assumption) ?_))); done)), (by ((repeat (first | (with_reducible exact Below.refl _ _) | (with_reducible refine below_drewN ?_ _) | (with_reducible refine Below.drew ?_) | (with_reducible refine below_al ?_ _) | (with_reducible refine below_on (by assumption) ?_) | ((with_reducible refine Below.setCell ?_ ?_ _); rotate_left; focus (first | omega | (simp; done) | (simp; omega))) | (with_reducible assumption))); done))⟩, by simp [intOf]; omega⟩
          · have hzc : ((R : Int) == (Z : Int) + 1) = false := by simp; omega
            have HFN := Lib.hid (show FBlk w3 (w.heap.size + 1) n (fun x => sumF (P.gF a b x) (s + 1)) from HF.out.congr (fun u _ => by
              show sumF (P.gF a b u) (s + 1) = sumF (P.gF a b u) s
              rw [HGZ.out, HGN.out u (fun q => by have := ((HTWs.out u).1 q).1; omega), Int.add_zero]))
            clear hc hz et hz1
            go_wp2
            go_loopw [16] (fun i wr2 => i = .int .i64 0 ∧ wr2 = w3) (fun _ _ => 0)
            case atStart => exact ⟨rfl, rfl⟩
            case round =>
              obtain ⟨rfl, rfl⟩ := hrel
              go_wp2
              go_quiet (fail)
              go_wp2
              exact ⟨⟨s + 1, by omega, by go_num, by rw [HSN.out, HET.out]; go_num, Lib.hid (HFN.out.by (by ((repeat (first | (with_reducible exact Below.refl _ _) | (with_reducible refine below_drewN ?_ _) | (with_reducible refine Below.drew ?_) | (with_reducible refine below_al ?_ _) | (with_reducible refine below_on (by assumption) ?_) | ((with_reducible refine Below.setCell ?_ ?_ _); rotate_left; focus (first | omega | (simp; done) | (simp; omega))) | (with_reducible assumption))); done))), (by ((repeat (first | (with_reducible assumption) | (with_reducible refine Blk.drewN ?_ _) | (with_reducible refine Blk.drew ?_) | ((with_reducible refine Blk.new _ ?_); focus (first | omega | (simp; done) | (simp; omega))) | (with_reducible refine Blk.past ?_ _) | ((with_reducible refine Blk.apart ?_ _ _ _ ?_); rotate_left; focus (first | omega | (simp; done) | (simp; omega))) | (with_reducible refine Blk.by (by assumption) ?_))); done)), (by ((repeat (first | (with_reducible exact Below.refl _ _) | (with_reducible refine below_drewN ?_ _) | (with_reducible refine Below.drew ?_) | (with_reducible refine below_al ?_ _) | (with_reducible refine below_on (by assumption) ?_) | ((with_reducible refine Below.setCell ?_ ?_ _); rotate_left; focus (first | omega | (simp; done) | (simp; omega))) | (with_reducible assumption))); done))⟩, by simp [intOf]; omega⟩
      · have hcb : ((C : Int) != (n : Int) - (R : Int)) = true := by simp; omega
        have et := HTN.out (fun q => hc (HTRs.out.1 q).1)
        have HET := Lib.hid et
        have HFN := Lib.hid (show FBlk w3 (w.heap.size + 1) n (fun x => sumF (P.gF a b x) (s + 1)) from HF.out.congr (fun u _ => by
          show sumF (P.gF a b u) (s + 1) = sumF (P.gF a b u) s
          rw [HGZ.out, HGN.out u (fun q => hc ((HTWs.out u).1 q).1.1), Int.add_zero]))
        clear hc et hsum
        go_wp2
        exact ⟨⟨s + 1, by omega, by go_num, by rw [HSN.out, HET.out]; go_num, Lib.hid (HFN.out.by (by ((repeat (first | (with_reducible exact Below.refl _ _) | (with_reducible refine below_drewN ?_ _) | (with_reducible refine Below.drew ?_) | (with_reducible refine below_al ?_ _) | (with_reducible refine below_on (by assumption) ?_) | ((with_reducible refine Below.setCell ?_ ?_ _); rotate_left; focus (first | omega | (simp; done) | (simp; omega))) | (with_reducible assumption))); done))), (by ((repeat (first | (with_reducible assumption) | (with_reducible refine Blk.drewN ?_ _) | (with_reducible refine Blk.drew ?_) | ((with_reducible refine Blk.new _ ?_); focus (first | omega | (simp; done) | (simp; omega))) | (with_reducible refine Blk.past ?_ _) | ((with_reducible refine Blk.apart ?_ _ _ _ ?_); rotate_left; focus (first | omega | (simp; done) | (simp; omega))) | (with_reducible refine Blk.by (by assumption) ?_))); done)), (by ((repeat (first | (with_reducible exact Below.refl _ _) | (with_reducible refine below_drewN ?_ _) | (with_reducible refine Below.drew ?_) | (with_reducible refine below_al ?_ _) | (with_reducible refine below_on (by assumption) ?_) | ((with_reducible refine Below.setCell ?_ ?_ _); rotate_left; focus (first | omega | (simp; done) | (simp; omega))) | (with_reducible assumption))); done))⟩, by simp [intOf]; omega⟩
    · obtain rfl : s = K := by omega
      have i1 : ¬ (s : Int) < (s : Int) := by omega
      have HTE := Lib.hid (show sumF P.tF s = P.tot from by rw [HTT.out])
      have HFE := Lib.hid (show FBlk wr (w.heap.size + 1) n (P.top a b) from HF.out.congr (fun u _ => by rw [HTP'.out u]))
      go_wp2
      exact bodyPost_ret (v := .tuple #[.int .i64 (sumF P.tF s), .slice (some ⟨w.heap.size + 1, 0, none⟩) n n]) (by simp [results, Try.results30, go_sem]) rfl ⟨_, by rw [HTE.out], HFE.out, by omega, hb⟩
end Go.Proofs.Ytjolkdckhmmenaa
