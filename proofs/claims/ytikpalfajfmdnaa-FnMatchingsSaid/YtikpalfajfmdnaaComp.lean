/- ComposeMatchings: the program's and the reference's. -/
import Derived.Test.YtikpalfajfmdnaaMatch
namespace Go.Proofs.Ytikpalfajfmdnaa
open Go.RowKit
set_option linter.unusedVariables false
set_option linter.unusedSimpArgs false


set_option maxRecDepth 100000 in
set_option maxHeartbeats 16000000 in
theorem implCompose_any (v u : Value) (x y : List Int × List Int) (w : World) (h : MaV w v x) (h' : MaV w u y) :
    Calls Try.prog 8 #[v, u] w fun e w' => ∃ v', e = .returned (.tuple #[v', .bool (thruB x y)]) ∧ OwnPr w' w.heap.size w'.heap.size v' (thruM x y) ∧ Below w.heap.size w w' := by
  have HM := Lib.hid (fun w h => implIsMatching_any v x w h)
  have HM' := Lib.hid (fun w h => implIsMatching_any u y w h)
  have HV := Lib.hid h
  have HU := Lib.hid h'
  obtain ⟨s1, s2, rfl, h1, h2⟩ := h
  obtain ⟨t1, t2, rfl, g1, g2⟩ := h'
  obtain ⟨xs, ys⟩ := x
  obtain ⟨us, vs⟩ := y
  dsimp only at h1 h2 g1 g2 ⊢
  have H1 := Lib.hid h1
  have H2 := Lib.hid h2
  have G1 := Lib.hid g1
  have G2 := Lib.hid g2
  have m1 := h1.le
  have m2 := h2.le
  have m3 := g1.le
  have m4 := g2.le
  obtain ⟨a1, c1, rfl⟩ := h1.len
  obtain ⟨a2, c2, rfl⟩ := h2.len
  obtain ⟨b1, d1, rfl⟩ := g1.len
  obtain ⟨b2, d2, rfl⟩ := g2.len
  obtain ⟨o, ho⟩ : ∃ o, thruM (xs, ys) (us, vs) = o := ⟨_, rfl⟩
  obtain ⟨t, ht⟩ : ∃ t, thruB (xs, ys) (us, vs) = t := ⟨_, rfl⟩
  rw [ho, ht]
  unfold thruM at ho
  rw [ht] at ho
  unfold thruB at ht
  obtain ⟨r, hr⟩ : ∃ r, maB (xs, ys) = r := ⟨_, rfl⟩
  obtain ⟨q, hq⟩ : ∃ q, maB (us, vs) = q := ⟨_, rfl⟩
  have HYES := Lib.hid (maB_iff (x := (xs, ys)))
  have HYES' := Lib.hid (maB_iff (x := (us, vs)))
  rw [hr] at HM ht HYES
  rw [hq] at HM' ht HYES'
  dsimp only at ht ho HYES HYES'
  have HO := Lib.hid ho
  clear h1 h2 g1 g2 hr hq ho
  have HNO : t = false → Hid (o = ([], [])) := fun e => Lib.hid (by have := HO.out; rw [e] at this; simpa using this.symm)
  cases r with
  | false =>
    have ht' : t = false := by rw [← ht]; simp
    have HN := HNO ht'
    subst ht'
    clear ht HNO
    go_enter Try.func8, Try.ntmps8
    go_wp2_with fail
    refine (HM.out _ (HV.out.by (by ((repeat (first | (with_reducible exact Below.refl _ _) | (with_reducible refine below_drewN ?_ _) | (with_reducible refine Below.drew ?_) | (with_reducible refine below_al ?_ _) | (with_reducible refine below_on (by assumption) ?_) | ((with_reducible refine Below.setCell ?_ ?_ _); rotate_left; focus (first | omega | (simp; done) | (simp; omega))) | (with_reducible assumption))); done)))).mono ?_
    rintro e w1 ⟨rfl, hb1⟩
    have kA : Blk w1 w.heap.size #[.slice a1 xs.length c1, .slice a2 ys.length c2] 26 := (by ((repeat (first | (with_reducible assumption) | (with_reducible refine Blk.drewN ?_ _) | (with_reducible refine Blk.drew ?_) | ((with_reducible refine Blk.new _ ?_); focus (first | omega | (simp; done) | (simp; omega))) | (with_reducible refine Blk.past ?_ _) | ((with_reducible refine Blk.apart ?_ _ _ _ ?_); rotate_left; focus (first | omega | (simp; done) | (simp; omega))) | (with_reducible refine Blk.by (by assumption) ?_))); done))
    have kB : Blk w1 (w.heap.size + 1) #[.slice b1 us.length d1, .slice b2 vs.length d2] 26 := (by ((repeat (first | (with_reducible assumption) | (with_reducible refine Blk.drewN ?_ _) | (with_reducible refine Blk.drew ?_) | ((with_reducible refine Blk.new _ ?_); focus (first | omega | (simp; done) | (simp; omega))) | (with_reducible refine Blk.past ?_ _) | ((with_reducible refine Blk.apart ?_ _ _ _ ?_); rotate_left; focus (first | omega | (simp; done) | (simp; omega))) | (with_reducible refine Blk.by (by assumption) ?_))); done))
    have kR : Blk w1 (w.heap.size + 1 + 1) #[.slice none 0 0, .slice none 0 0] 26 := (by ((repeat (first | (with_reducible assumption) | (with_reducible refine Blk.drewN ?_ _) | (with_reducible refine Blk.drew ?_) | ((with_reducible refine Blk.new _ ?_); focus (first | omega | (simp; done) | (simp; omega))) | (with_reducible refine Blk.past ?_ _) | ((with_reducible refine Blk.apart ?_ _ _ _ ?_); rotate_left; focus (first | omega | (simp; done) | (simp; omega))) | (with_reducible refine Blk.by (by assumption) ?_))); done))
    have hW : Below w.heap.size w w1 := (by ((repeat (first | (with_reducible exact Below.refl _ _) | (with_reducible refine below_drewN ?_ _) | (with_reducible refine Below.drew ?_) | (with_reducible refine below_al ?_ _) | (with_reducible refine below_on (by assumption) ?_) | ((with_reducible refine Below.setCell ?_ ?_ _); rotate_left; focus (first | omega | (simp; done) | (simp; omega))) | (with_reducible assumption))); done))
    have qR := kR.cell
    have fR := kR.free
    have lR := kR.lt
    clear hb1
    go_wp2
    refine bodyPost_ret (v := .tuple #[.agg #[.slice none 0 0, .slice none 0 0], .bool false]) (by simp [results, Try.results8, go_sem, *]) rfl ⟨_, rfl, ?_, (by ((repeat (first | (with_reducible exact Below.refl _ _) | (with_reducible refine below_drewN ?_ _) | (with_reducible refine Below.drew ?_) | (with_reducible refine below_al ?_ _) | (with_reducible refine below_on (by assumption) ?_) | ((with_reducible refine Below.setCell ?_ ?_ _); rotate_left; focus (first | omega | (simp; done) | (simp; omega))) | (with_reducible assumption))); done))⟩
    rw [HN.out]
    exact OwnPr.nil _ _ _ (by simp; omega)
  | true =>
    obtain ⟨l1, l2, p1, p2⟩ := HYES.out.1 rfl
    cases q with
    | false =>
      have ht' : t = false := by rw [← ht]; simp
      have HN := HNO ht'
      subst ht'
      clear ht HNO l1 l2 p1 p2
      go_enter Try.func8, Try.ntmps8
      go_wp2_with fail
      refine (HM.out _ (HV.out.by (by ((repeat (first | (with_reducible exact Below.refl _ _) | (with_reducible refine below_drewN ?_ _) | (with_reducible refine Below.drew ?_) | (with_reducible refine below_al ?_ _) | (with_reducible refine below_on (by assumption) ?_) | ((with_reducible refine Below.setCell ?_ ?_ _); rotate_left; focus (first | omega | (simp; done) | (simp; omega))) | (with_reducible assumption))); done)))).mono ?_
      rintro e w0 ⟨rfl, hb1⟩
      have kA : Blk w0 w.heap.size #[.slice a1 xs.length c1, .slice a2 ys.length c2] 26 := (by ((repeat (first | (with_reducible assumption) | (with_reducible refine Blk.drewN ?_ _) | (with_reducible refine Blk.drew ?_) | ((with_reducible refine Blk.new _ ?_); focus (first | omega | (simp; done) | (simp; omega))) | (with_reducible refine Blk.past ?_ _) | ((with_reducible refine Blk.apart ?_ _ _ _ ?_); rotate_left; focus (first | omega | (simp; done) | (simp; omega))) | (with_reducible refine Blk.by (by assumption) ?_))); done))
      have kB : Blk w0 (w.heap.size + 1) #[.slice b1 us.length d1, .slice b2 vs.length d2] 26 := (by ((repeat (first | (with_reducible assumption) | (with_reducible refine Blk.drewN ?_ _) | (with_reducible refine Blk.drew ?_) | ((with_reducible refine Blk.new _ ?_); focus (first | omega | (simp; done) | (simp; omega))) | (with_reducible refine Blk.past ?_ _) | ((with_reducible refine Blk.apart ?_ _ _ _ ?_); rotate_left; focus (first | omega | (simp; done) | (simp; omega))) | (with_reducible refine Blk.by (by assumption) ?_))); done))
      have kR : Blk w0 (w.heap.size + 1 + 1) #[.slice none 0 0, .slice none 0 0] 26 := (by ((repeat (first | (with_reducible assumption) | (with_reducible refine Blk.drewN ?_ _) | (with_reducible refine Blk.drew ?_) | ((with_reducible refine Blk.new _ ?_); focus (first | omega | (simp; done) | (simp; omega))) | (with_reducible refine Blk.past ?_ _) | ((with_reducible refine Blk.apart ?_ _ _ _ ?_); rotate_left; focus (first | omega | (simp; done) | (simp; omega))) | (with_reducible refine Blk.by (by assumption) ?_))); done))
      have hW : Below w.heap.size w w0 := (by ((repeat (first | (with_reducible exact Below.refl _ _) | (with_reducible refine below_drewN ?_ _) | (with_reducible refine Below.drew ?_) | (with_reducible refine below_al ?_ _) | (with_reducible refine below_on (by assumption) ?_) | ((with_reducible refine Below.setCell ?_ ?_ _); rotate_left; focus (first | omega | (simp; done) | (simp; omega))) | (with_reducible assumption))); done))
      have qB := kB.cell
      clear hb1
      go_wp2_with fail
      refine (HM'.out _ (HU.out.by hW)).mono ?_
      rintro e w1 ⟨rfl, hb1⟩
      replace kR := Blk.by hb1 kR
      replace hW := below_on hb1 hW
      have qR := kR.cell
      have fR := kR.free
      have lR := kR.lt
      clear hb1 qB
      go_wp2
      refine bodyPost_ret (v := .tuple #[.agg #[.slice none 0 0, .slice none 0 0], .bool false]) (by simp [results, Try.results8, go_sem, *]) rfl ⟨_, rfl, ?_, (by ((repeat (first | (with_reducible exact Below.refl _ _) | (with_reducible refine below_drewN ?_ _) | (with_reducible refine Below.drew ?_) | (with_reducible refine below_al ?_ _) | (with_reducible refine below_on (by assumption) ?_) | ((with_reducible refine Below.setCell ?_ ?_ _); rotate_left; focus (first | omega | (simp; done) | (simp; omega))) | (with_reducible assumption))); done))⟩
      rw [HN.out]
      exact OwnPr.nil _ _ _ (by simp; omega)
    | true =>
      obtain ⟨k1, k2, r1, r2⟩ := HYES'.out.1 rfl
      by_cases e1 : xs.length = us.length
      · by_cases e2 : ys.length = vs.length
        · have ht' : t = true := by rw [← ht]; simp [e1, e2]
          have HI1 := Lib.hid (fun w h h' => implThru_any (.slice a1 xs.length c1) (.slice b1 us.length d1) xs us w h h' (by omega) (by rw [← e1]; exact (permB_iff.1 p1).2.2))
          have HI2 := Lib.hid (fun w h h' => implThru_any (.slice a2 ys.length c2) (.slice b2 vs.length d2) ys vs w h h' (by omega) (by rw [← e2]; exact (permB_iff.1 p2).2.2))
          subst ht'
          have HE := Lib.hid (And.intro e1 e2)
          rw [← e1] at HI1 G1 HM' HU
          rw [← e2] at HI2 G2 HM' HU
          have g1 : decide ((xs.length : Int) = us.length) = true := decide_eq_true (by omega)
          rw [← e1, ← e2]
          clear ht HNO l1 l2 p1 p2 k1 k2 r1 r2 e1 e2 m3 m4 g1
          go_enter Try.func8, Try.ntmps8
          go_wp2_with fail
          refine (HM.out _ (HV.out.by (by ((repeat (first | (with_reducible exact Below.refl _ _) | (with_reducible refine below_drewN ?_ _) | (with_reducible refine Below.drew ?_) | (with_reducible refine below_al ?_ _) | (with_reducible refine below_on (by assumption) ?_) | ((with_reducible refine Below.setCell ?_ ?_ _); rotate_left; focus (first | omega | (simp; done) | (simp; omega))) | (with_reducible assumption))); done)))).mono ?_
          rintro e w0 ⟨rfl, hb1⟩
          have kA : Blk w0 w.heap.size #[.slice a1 xs.length c1, .slice a2 ys.length c2] 26 := (by ((repeat (first | (with_reducible assumption) | (with_reducible refine Blk.drewN ?_ _) | (with_reducible refine Blk.drew ?_) | ((with_reducible refine Blk.new _ ?_); focus (first | omega | (simp; done) | (simp; omega))) | (with_reducible refine Blk.past ?_ _) | ((with_reducible refine Blk.apart ?_ _ _ _ ?_); rotate_left; focus (first | omega | (simp; done) | (simp; omega))) | (with_reducible refine Blk.by (by assumption) ?_))); done))
          have kB : Blk w0 (w.heap.size + 1) #[.slice b1 xs.length d1, .slice b2 ys.length d2] 26 := (by ((repeat (first | (with_reducible assumption) | (with_reducible refine Blk.drewN ?_ _) | (with_reducible refine Blk.drew ?_) | ((with_reducible refine Blk.new _ ?_); focus (first | omega | (simp; done) | (simp; omega))) | (with_reducible refine Blk.past ?_ _) | ((with_reducible refine Blk.apart ?_ _ _ _ ?_); rotate_left; focus (first | omega | (simp; done) | (simp; omega))) | (with_reducible refine Blk.by (by assumption) ?_))); done))
          have kR : Blk w0 (w.heap.size + 1 + 1) #[.slice none 0 0, .slice none 0 0] 26 := (by ((repeat (first | (with_reducible assumption) | (with_reducible refine Blk.drewN ?_ _) | (with_reducible refine Blk.drew ?_) | ((with_reducible refine Blk.new _ ?_); focus (first | omega | (simp; done) | (simp; omega))) | (with_reducible refine Blk.past ?_ _) | ((with_reducible refine Blk.apart ?_ _ _ _ ?_); rotate_left; focus (first | omega | (simp; done) | (simp; omega))) | (with_reducible refine Blk.by (by assumption) ?_))); done))
          have hW : Below w.heap.size w w0 := (by ((repeat (first | (with_reducible exact Below.refl _ _) | (with_reducible refine below_drewN ?_ _) | (with_reducible refine Below.drew ?_) | (with_reducible refine below_al ?_ _) | (with_reducible refine below_on (by assumption) ?_) | ((with_reducible refine Below.setCell ?_ ?_ _); rotate_left; focus (first | omega | (simp; done) | (simp; omega))) | (with_reducible assumption))); done))
          have qB := kB.cell
          clear hb1
          go_wp2_with fail
          refine (HM'.out _ (HU.out.by hW)).mono ?_
          rintro e w1 ⟨rfl, hb1⟩
          replace kA := Blk.by hb1 kA
          replace kB := Blk.by hb1 kB
          replace kR := Blk.by hb1 kR
          replace hW := below_on hb1 hW
          have qA := kA.cell
          have lA := kA.lt
          have lB' := kB.lt
          have lR := kR.lt
          clear hb1 qB
          have qB := kB.cell
          go_wp2_with fail
          go_region_held3 (fun w' => (Blk w' w.heap.size #[.slice a1 xs.length c1, .slice a2 ys.length c2] 26 ∧ ∀ o, w'.cell? ⟨w.heap.size, o, none⟩ = (#[.slice a1 xs.length c1, .slice a2 ys.length c2] : Array Value)[o]?) ∧ (Blk w' (w.heap.size + 1) #[.slice b1 xs.length d1, .slice b2 ys.length d2] 26 ∧ ∀ o, w'.cell? ⟨w.heap.size + 1, o, none⟩ = (#[.slice b1 xs.length d1, .slice b2 ys.length d2] : Array Value)[o]?) ∧ Below w.heap.size w w') (((try (obtain ⟨⟨hS0, _⟩, ⟨hS1, _⟩, hSB⟩ := hHeld)); refine ⟨Blk.both ?_, Blk.both ?_, ?_⟩ <;> first | ((repeat (first | (with_reducible assumption) | (with_reducible refine Blk.drewN ?_ _) | (with_reducible refine Blk.drew ?_) | ((with_reducible refine Blk.new _ ?_); focus (first | omega | (simp; done) | (simp; omega))) | (with_reducible refine Blk.past ?_ _) | ((with_reducible refine Blk.apart ?_ _ _ _ ?_); rotate_left; focus (first | omega | (simp; done) | (simp; omega))) | (with_reducible refine Blk.by (by assumption) ?_))); done) | ((repeat (first | (with_reducible exact Below.refl _ _) | (with_reducible refine below_drewN ?_ _) | (with_reducible refine Below.drew ?_) | (with_reducible refine below_al ?_ _) | (with_reducible refine below_on (by assumption) ?_) | ((with_reducible refine Below.setCell ?_ ?_ _); rotate_left; focus (first | omega | (simp; done) | (simp; omega))) | (with_reducible assumption))); done)))
            (first | (go_at_call_of 17 (Value.slice a1 xs.length c1); refine (HI1.out _ ((H1.out.by hW).by (below_of_drewN w1 1)) ((G1.out.by hW).by (below_of_drewN w1 1))).mono ?_; rintro e wa ⟨va, rfl, hOa, hba⟩; have HOa := Lib.hid hOa; obtain ⟨aa, ca, rfl⟩ := hOa.sl.len; rw [length_thruS] at HOa ⊢; clear hOa) | (go_at_call_of 17 (Value.slice a2 ys.length c2); refine (HI2.out _ (((H2.out.by hW).by (below_of_drewN w1 1)).by hba) (((G2.out.by hW).by (below_of_drewN w1 1)).by hba)).mono ?_; rintro e wb ⟨vb, rfl, hOb, hbb⟩; have HOb := Lib.hid hOb; obtain ⟨ab, cb, rfl⟩ := hOb.sl.len; rw [length_thruS] at HOb ⊢; clear hOb; have kR2 := Blk.by hbb (Blk.by hba (kR.drewN 1)); have fR2 := kR2.free; have lR2 := kR2.lt; have qR2 := kR2.cell))
          have lB := hbb.size
          have lAa : w1.heap.size ≤ wa.heap.size := hba.size
          go_wp2
          refine bodyPost_ret (v := .tuple #[.agg #[.slice aa xs.length ca, .slice ab ys.length cb], .bool true]) (by simp [results, Try.results8, go_sem, *]) rfl ⟨_, rfl, ?_, (by ((repeat (first | (with_reducible exact Below.refl _ _) | (with_reducible refine below_drewN ?_ _) | (with_reducible refine Below.drew ?_) | (with_reducible refine below_al ?_ _) | (with_reducible refine below_on (by assumption) ?_) | ((with_reducible refine Below.setCell ?_ ?_ _); rotate_left; focus (first | omega | (simp; done) | (simp; omega))) | (with_reducible assumption))); done))⟩
          have hy := HO.out
          rw [if_pos trivial] at hy
          rw [← hy]
          refine ⟨_, _, w1.heap.size, wa.heap.size, wa.heap.size, wb.heap.size, rfl, ?_, ?_, ⟨by omega, by simp; omega⟩, ⟨by omega, by simp; try omega⟩, .inl (Nat.le_refl _)⟩
          · exact OwnR.past (Within.off _) (OwnR.past (Within.off _) (OwnR.by hbb HOa.out) (by omega)) (by omega)
          · exact OwnR.past (Within.off _) (OwnR.past (Within.off _) HOb.out (by omega)) (by omega)
        · have ht' : t = false := by rw [← ht]; simp [e2]
          have HN := HNO ht'
          subst ht'
          rw [← e1] at G1 HM' HU
          rw [← e1]
          clear ht HNO l1 l2 p1 p2 k1 k2 r1 r2 e1 m3
          go_enter Try.func8, Try.ntmps8
          go_wp2_with fail
          refine (HM.out _ (HV.out.by (by ((repeat (first | (with_reducible exact Below.refl _ _) | (with_reducible refine below_drewN ?_ _) | (with_reducible refine Below.drew ?_) | (with_reducible refine below_al ?_ _) | (with_reducible refine below_on (by assumption) ?_) | ((with_reducible refine Below.setCell ?_ ?_ _); rotate_left; focus (first | omega | (simp; done) | (simp; omega))) | (with_reducible assumption))); done)))).mono ?_
          rintro e w0 ⟨rfl, hb1⟩
          have kA : Blk w0 w.heap.size #[.slice a1 xs.length c1, .slice a2 ys.length c2] 26 := (by ((repeat (first | (with_reducible assumption) | (with_reducible refine Blk.drewN ?_ _) | (with_reducible refine Blk.drew ?_) | ((with_reducible refine Blk.new _ ?_); focus (first | omega | (simp; done) | (simp; omega))) | (with_reducible refine Blk.past ?_ _) | ((with_reducible refine Blk.apart ?_ _ _ _ ?_); rotate_left; focus (first | omega | (simp; done) | (simp; omega))) | (with_reducible refine Blk.by (by assumption) ?_))); done))
          have kB : Blk w0 (w.heap.size + 1) #[.slice b1 xs.length d1, .slice b2 vs.length d2] 26 := (by ((repeat (first | (with_reducible assumption) | (with_reducible refine Blk.drewN ?_ _) | (with_reducible refine Blk.drew ?_) | ((with_reducible refine Blk.new _ ?_); focus (first | omega | (simp; done) | (simp; omega))) | (with_reducible refine Blk.past ?_ _) | ((with_reducible refine Blk.apart ?_ _ _ _ ?_); rotate_left; focus (first | omega | (simp; done) | (simp; omega))) | (with_reducible refine Blk.by (by assumption) ?_))); done))
          have kR : Blk w0 (w.heap.size + 1 + 1) #[.slice none 0 0, .slice none 0 0] 26 := (by ((repeat (first | (with_reducible assumption) | (with_reducible refine Blk.drewN ?_ _) | (with_reducible refine Blk.drew ?_) | ((with_reducible refine Blk.new _ ?_); focus (first | omega | (simp; done) | (simp; omega))) | (with_reducible refine Blk.past ?_ _) | ((with_reducible refine Blk.apart ?_ _ _ _ ?_); rotate_left; focus (first | omega | (simp; done) | (simp; omega))) | (with_reducible refine Blk.by (by assumption) ?_))); done))
          have hW : Below w.heap.size w w0 := (by ((repeat (first | (with_reducible exact Below.refl _ _) | (with_reducible refine below_drewN ?_ _) | (with_reducible refine Below.drew ?_) | (with_reducible refine below_al ?_ _) | (with_reducible refine below_on (by assumption) ?_) | ((with_reducible refine Below.setCell ?_ ?_ _); rotate_left; focus (first | omega | (simp; done) | (simp; omega))) | (with_reducible assumption))); done))
          have qB := kB.cell
          clear hb1
          go_wp2_with fail
          refine (HM'.out _ (HU.out.by hW)).mono ?_
          rintro e w1 ⟨rfl, hb1⟩
          replace kA := Blk.by hb1 kA
          replace kB := Blk.by hb1 kB
          replace kR := Blk.by hb1 kR
          replace hW := below_on hb1 hW
          have qA := kA.cell
          have qR := kR.cell
          have fR := kR.free
          have lR := kR.lt
          clear hb1 qB
          have qB := kB.cell
          go_wp2
          refine bodyPost_ret (v := .tuple #[.agg #[.slice none 0 0, .slice none 0 0], .bool false]) (by simp [results, Try.results8, go_sem, *]) rfl ⟨_, rfl, ?_, (by ((repeat (first | (with_reducible exact Below.refl _ _) | (with_reducible refine below_drewN ?_ _) | (with_reducible refine Below.drew ?_) | (with_reducible refine below_al ?_ _) | (with_reducible refine below_on (by assumption) ?_) | ((with_reducible refine Below.setCell ?_ ?_ _); rotate_left; focus (first | omega | (simp; done) | (simp; omega))) | (with_reducible assumption))); done))⟩
          rw [HN.out]
          exact OwnPr.nil _ _ _ (by simp; omega)
      · have ht' : t = false := by rw [← ht]; simp [e1]
        have HN := HNO ht'
        subst ht'
        clear ht HNO l1 l2 p1 p2 k1 k2 r1 r2
        go_enter Try.func8, Try.ntmps8
        go_wp2_with fail
        refine (HM.out _ (HV.out.by (by ((repeat (first | (with_reducible exact Below.refl _ _) | (with_reducible refine below_drewN ?_ _) | (with_reducible refine Below.drew ?_) | (with_reducible refine below_al ?_ _) | (with_reducible refine below_on (by assumption) ?_) | ((with_reducible refine Below.setCell ?_ ?_ _); rotate_left; focus (first | omega | (simp; done) | (simp; omega))) | (with_reducible assumption))); done)))).mono ?_
        rintro e w0 ⟨rfl, hb1⟩
        have kA : Blk w0 w.heap.size #[.slice a1 xs.length c1, .slice a2 ys.length c2] 26 := (by ((repeat (first | (with_reducible assumption) | (with_reducible refine Blk.drewN ?_ _) | (with_reducible refine Blk.drew ?_) | ((with_reducible refine Blk.new _ ?_); focus (first | omega | (simp; done) | (simp; omega))) | (with_reducible refine Blk.past ?_ _) | ((with_reducible refine Blk.apart ?_ _ _ _ ?_); rotate_left; focus (first | omega | (simp; done) | (simp; omega))) | (with_reducible refine Blk.by (by assumption) ?_))); done))
        have kB : Blk w0 (w.heap.size + 1) #[.slice b1 us.length d1, .slice b2 vs.length d2] 26 := (by ((repeat (first | (with_reducible assumption) | (with_reducible refine Blk.drewN ?_ _) | (with_reducible refine Blk.drew ?_) | ((with_reducible refine Blk.new _ ?_); focus (first | omega | (simp; done) | (simp; omega))) | (with_reducible refine Blk.past ?_ _) | ((with_reducible refine Blk.apart ?_ _ _ _ ?_); rotate_left; focus (first | omega | (simp; done) | (simp; omega))) | (with_reducible refine Blk.by (by assumption) ?_))); done))
        have kR : Blk w0 (w.heap.size + 1 + 1) #[.slice none 0 0, .slice none 0 0] 26 := (by ((repeat (first | (with_reducible assumption) | (with_reducible refine Blk.drewN ?_ _) | (with_reducible refine Blk.drew ?_) | ((with_reducible refine Blk.new _ ?_); focus (first | omega | (simp; done) | (simp; omega))) | (with_reducible refine Blk.past ?_ _) | ((with_reducible refine Blk.apart ?_ _ _ _ ?_); rotate_left; focus (first | omega | (simp; done) | (simp; omega))) | (with_reducible refine Blk.by (by assumption) ?_))); done))
        have hW : Below w.heap.size w w0 := (by ((repeat (first | (with_reducible exact Below.refl _ _) | (with_reducible refine below_drewN ?_ _) | (with_reducible refine Below.drew ?_) | (with_reducible refine below_al ?_ _) | (with_reducible refine below_on (by assumption) ?_) | ((with_reducible refine Below.setCell ?_ ?_ _); rotate_left; focus (first | omega | (simp; done) | (simp; omega))) | (with_reducible assumption))); done))
        have qB := kB.cell
        clear hb1
        go_wp2_with fail
        refine (HM'.out _ (HU.out.by hW)).mono ?_
        rintro e w1 ⟨rfl, hb1⟩
        replace kA := Blk.by hb1 kA
        replace kB := Blk.by hb1 kB
        replace kR := Blk.by hb1 kR
        replace hW := below_on hb1 hW
        have qA := kA.cell
        have qR := kR.cell
        have fR := kR.free
        have lR := kR.lt
        clear hb1 qB
        have qB := kB.cell
        go_wp2
        refine bodyPost_ret (v := .tuple #[.agg #[.slice none 0 0, .slice none 0 0], .bool false]) (by simp [results, Try.results8, go_sem, *]) rfl ⟨_, rfl, ?_, (by ((repeat (first | (with_reducible exact Below.refl _ _) | (with_reducible refine below_drewN ?_ _) | (with_reducible refine Below.drew ?_) | (with_reducible refine below_al ?_ _) | (with_reducible refine below_on (by assumption) ?_) | ((with_reducible refine Below.setCell ?_ ?_ _); rotate_left; focus (first | omega | (simp; done) | (simp; omega))) | (with_reducible assumption))); done))⟩
        rw [HN.out]
        exact OwnPr.nil _ _ _ (by simp; omega)


end Go.Proofs.Ytikpalfajfmdnaa
