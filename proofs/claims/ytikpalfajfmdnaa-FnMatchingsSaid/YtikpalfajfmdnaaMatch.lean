/- Matchings: the program's and the reference's functions on pairs of permutations. -/
import Derived.Test.YtikpalfajfmdnaaOrdI
import Derived.Test.YtikpalfajfmdnaaPerm
import Derived.Test.YtikpalfajfmdnaaOrds
import Derived.Test.YtikpalfajfmdnaaPairOwnMatching
namespace Go.Proofs.Ytikpalfajfmdnaa
open Go.RowKit
set_option linter.unusedVariables false
set_option linter.unusedSimpArgs false

/-- A pair of permutations that are not too long. -/
def maB (x : List Int × List Int) : Bool := decide (x.1.length ≤ 24 ∧ x.2.length ≤ 24 ∧ permB x.1 x.1.length = true ∧ permB x.2 x.2.length = true)
theorem maB_iff {x : List Int × List Int} : maB x = true ↔ (x.1.length ≤ 24 ∧ x.2.length ≤ 24 ∧ permB x.1 x.1.length = true ∧ permB x.2 x.2.length = true) := by simp [maB]
theorem maB_no {x : List Int × List Int} (h : ¬ (x.1.length ≤ 24 ∧ x.2.length ≤ 24 ∧ permB x.1 x.1.length = true ∧ permB x.2 x.2.length = true)) : maB x = false := by
  cases e : maB x with
  | false => rfl
  | true => exact absurd (maB_iff.1 e) h
def invM (x : List Int × List Int) : List Int × List Int := if maB x = true then (invS x.1, invS x.2) else ([], [])
def thruB (x y : List Int × List Int) : Bool := decide (maB x = true ∧ maB y = true ∧ x.1.length = y.1.length ∧ x.2.length = y.2.length)
def thruM (x y : List Int × List Int) : List Int × List Int := if thruB x y = true then (thruS x.1 y.1, thruS x.2 y.2) else ([], [])
theorem invM_bounds {x : List Int × List Int} (h1 : x.1.length ≤ 1048576) (h2 : x.2.length ≤ 1048576) : (invM x).1.length ≤ 1048576 ∧ (invM x).2.length ≤ 1048576 := by
  unfold invM; split
  · rw [length_invS, length_invS]; exact ⟨h1, h2⟩
  · simp
theorem thruM_bounds {x y : List Int × List Int} (h1 : x.1.length ≤ 1048576) (h2 : x.2.length ≤ 1048576) : (thruM x y).1.length ≤ 1048576 ∧ (thruM x y).2.length ≤ 1048576 := by
  unfold thruM; split
  · rw [length_thruS, length_thruS]; exact ⟨h1, h2⟩
  · simp
theorem OwnPr.nil (w : World) (lo hi : Nat) (h : lo ≤ hi) : OwnPr w lo hi (.agg #[.slice none 0 0, .slice none 0 0]) ([], []) :=
  ⟨_, _, lo, lo, lo, lo, rfl, .inl ⟨_, _, rfl, rfl⟩, .inl ⟨_, _, rfl, rfl⟩, by omega, by omega, .inl (Nat.le_refl _)⟩


set_option maxRecDepth 100000 in
set_option maxHeartbeats 4000000 in
theorem implIsMatching_any (v : Value) (x : List Int × List Int) (w : World) (h : MaV w v x) :
    Calls Try.prog 13 #[v] w fun e w' => e = .returned (.bool (maB x)) ∧ Below w.heap.size w w' := by
  obtain ⟨s1, s2, rfl, h1, h2⟩ := h
  obtain ⟨xs, ys⟩ := x
  have HNO := Lib.hid (maB_no (x := (xs, ys)))
  have HYES := Lib.hid (maB_iff (x := (xs, ys)))
  dsimp only at h1 h2 HNO HYES ⊢
  have H1 := Lib.hid h1
  have H2 := Lib.hid h2
  have hm1 := h1.le
  have hm2 := h2.le
  obtain ⟨a1, c1, rfl⟩ := h1.len
  obtain ⟨a2, c2, rfl⟩ := h2.len
  generalize maB (xs, ys) = r at *
  clear h1 h2
  by_cases l1 : xs.length ≤ 24
  · by_cases l2 : ys.length ≤ 24
    · have HP1 := Lib.hid (fun w h => implOrder_any (.slice a1 xs.length c1) xs xs.length w h (by omega))
      have HP2 := Lib.hid (fun w h => implOrder_any (.slice a2 ys.length c2) ys ys.length w h (by omega))
      obtain ⟨p1, hp1⟩ : ∃ p, permB xs xs.length = p := ⟨_, rfl⟩
      obtain ⟨p2, hp2⟩ : ∃ p, permB ys ys.length = p := ⟨_, rfl⟩
      rw [hp1] at HP1 HNO HYES
      rw [hp2] at HP2 HNO HYES
      have L1 := Lib.hid l1
      have L2 := Lib.hid l2
      have d1 : decide ((xs.length : Int) ≤ 24) = true := decide_eq_true (by omega)
      have d2 : decide ((ys.length : Int) ≤ 24) = true := decide_eq_true (by omega)
      clear hp1 hp2
      cases p1 with
      | false =>
        go_enter Try.func13, Try.ntmps13
        go_wp2_with fail
        refine (HP1.out _ (H1.out.by (by ((repeat (first | (with_reducible exact Below.refl _ _) | (with_reducible refine below_drewN ?_ _) | (with_reducible refine Below.drew ?_) | (with_reducible refine below_al ?_ _) | (with_reducible refine below_on (by assumption) ?_) | ((with_reducible refine Below.setCell ?_ ?_ _); rotate_left; focus (first | omega | (simp; done) | (simp; omega))) | (with_reducible assumption))); done)))).mono ?_
        rintro e w1 ⟨rfl, hb1⟩
        go_wp2
        go_ret
        exact ⟨ret_bool (HNO.out (by simp)).symm, (by ((repeat (first | (with_reducible exact Below.refl _ _) | (with_reducible refine below_drewN ?_ _) | (with_reducible refine Below.drew ?_) | (with_reducible refine below_al ?_ _) | (with_reducible refine below_on (by assumption) ?_) | ((with_reducible refine Below.setCell ?_ ?_ _); rotate_left; focus (first | omega | (simp; done) | (simp; omega))) | (with_reducible assumption))); done))⟩
      | true =>
        go_enter Try.func13, Try.ntmps13
        go_wp2_with fail
        refine (HP1.out _ (H1.out.by (by ((repeat (first | (with_reducible exact Below.refl _ _) | (with_reducible refine below_drewN ?_ _) | (with_reducible refine Below.drew ?_) | (with_reducible refine below_al ?_ _) | (with_reducible refine below_on (by assumption) ?_) | ((with_reducible refine Below.setCell ?_ ?_ _); rotate_left; focus (first | omega | (simp; done) | (simp; omega))) | (with_reducible assumption))); done)))).mono ?_
        rintro e w1 ⟨rfl, hb1⟩
        have k0 : Blk w1 w.heap.size #[.slice a1 xs.length c1, .slice a2 ys.length c2] 26 := (by ((repeat (first | (with_reducible assumption) | (with_reducible refine Blk.drewN ?_ _) | (with_reducible refine Blk.drew ?_) | ((with_reducible refine Blk.new _ ?_); focus (first | omega | (simp; done) | (simp; omega))) | (with_reducible refine Blk.past ?_ _) | ((with_reducible refine Blk.apart ?_ _ _ _ ?_); rotate_left; focus (first | omega | (simp; done) | (simp; omega))) | (with_reducible refine Blk.by (by assumption) ?_))); done))
        have q0 := k0.cell
        have hW : Below w.heap.size w w1 := (by ((repeat (first | (with_reducible exact Below.refl _ _) | (with_reducible refine below_drewN ?_ _) | (with_reducible refine Below.drew ?_) | (with_reducible refine below_al ?_ _) | (with_reducible refine below_on (by assumption) ?_) | ((with_reducible refine Below.setCell ?_ ?_ _); rotate_left; focus (first | omega | (simp; done) | (simp; omega))) | (with_reducible assumption))); done))
        clear hb1
        go_wp2_with fail
        refine (HP2.out _ (H2.out.by hW)).mono ?_
        rintro e w2 ⟨rfl, hb2⟩
        cases p2 with
        | false =>
          go_wp2
          go_ret
          exact ⟨ret_bool (HNO.out (by simp)).symm, (by ((repeat (first | (with_reducible exact Below.refl _ _) | (with_reducible refine below_drewN ?_ _) | (with_reducible refine Below.drew ?_) | (with_reducible refine below_al ?_ _) | (with_reducible refine below_on (by assumption) ?_) | ((with_reducible refine Below.setCell ?_ ?_ _); rotate_left; focus (first | omega | (simp; done) | (simp; omega))) | (with_reducible assumption))); done))⟩
        | true =>
          go_wp2
          go_ret
          exact ⟨ret_bool (HYES.out.2 ⟨L1.out, L2.out, by simp, by simp⟩).symm, (by ((repeat (first | (with_reducible exact Below.refl _ _) | (with_reducible refine below_drewN ?_ _) | (with_reducible refine Below.drew ?_) | (with_reducible refine below_al ?_ _) | (with_reducible refine below_on (by assumption) ?_) | ((with_reducible refine Below.setCell ?_ ?_ _); rotate_left; focus (first | omega | (simp; done) | (simp; omega))) | (with_reducible assumption))); done))⟩
    · have hr : r = false := HNO.out (by simp [l2])
      have d2 : decide ((ys.length : Int) ≤ 24) = false := decide_eq_false (by omega)
      subst hr
      go_enter Try.func13, Try.ntmps13
      go_wp2
      go_ret
      exact ⟨by simp, (by ((repeat (first | (with_reducible exact Below.refl _ _) | (with_reducible refine below_drewN ?_ _) | (with_reducible refine Below.drew ?_) | (with_reducible refine below_al ?_ _) | (with_reducible refine below_on (by assumption) ?_) | ((with_reducible refine Below.setCell ?_ ?_ _); rotate_left; focus (first | omega | (simp; done) | (simp; omega))) | (with_reducible assumption))); done))⟩
  · have hr : r = false := HNO.out (by simp [l1])
    have d1 : decide ((xs.length : Int) ≤ 24) = false := decide_eq_false (by omega)
    subst hr
    go_enter Try.func13, Try.ntmps13
    go_wp2
    go_ret
    exact ⟨by simp, (by ((repeat (first | (with_reducible exact Below.refl _ _) | (with_reducible refine below_drewN ?_ _) | (with_reducible refine Below.drew ?_) | (with_reducible refine below_al ?_ _) | (with_reducible refine below_on (by assumption) ?_) | ((with_reducible refine Below.setCell ?_ ?_ _); rotate_left; focus (first | omega | (simp; done) | (simp; omega))) | (with_reducible assumption))); done))⟩


set_option maxRecDepth 100000 in
set_option maxHeartbeats 4000000 in
theorem specIsMatching_any (v : Value) (x : List Int × List Int) (w : World) (h : MaV w v x) :
    Calls Try.prog 15 #[v] w fun e w' => e = .returned (.bool (maB x)) ∧ Below w.heap.size w w' := by
  obtain ⟨s1, s2, rfl, h1, h2⟩ := h
  obtain ⟨xs, ys⟩ := x
  have HNO := Lib.hid (maB_no (x := (xs, ys)))
  have HYES := Lib.hid (maB_iff (x := (xs, ys)))
  dsimp only at h1 h2 HNO HYES ⊢
  have H1 := Lib.hid h1
  have H2 := Lib.hid h2
  have hm1 := h1.le
  have hm2 := h2.le
  obtain ⟨a1, c1, rfl⟩ := h1.len
  obtain ⟨a2, c2, rfl⟩ := h2.len
  generalize maB (xs, ys) = r at *
  clear h1 h2
  by_cases l1 : xs.length ≤ 24
  · by_cases l2 : ys.length ≤ 24
    · have HP1 := Lib.hid (fun w h => specPerm_any (.slice a1 xs.length c1) xs xs.length w h (by omega) (by omega))
      have HP2 := Lib.hid (fun w h => specPerm_any (.slice a2 ys.length c2) ys ys.length w h (by omega) (by omega))
      obtain ⟨p1, hp1⟩ : ∃ p, permB xs xs.length = p := ⟨_, rfl⟩
      obtain ⟨p2, hp2⟩ : ∃ p, permB ys ys.length = p := ⟨_, rfl⟩
      rw [hp1] at HP1 HNO HYES
      rw [hp2] at HP2 HNO HYES
      have L1 := Lib.hid l1
      have L2 := Lib.hid l2
      have d1 : decide ((xs.length : Int) ≤ 24) = true := decide_eq_true (by omega)
      have d2 : decide ((ys.length : Int) ≤ 24) = true := decide_eq_true (by omega)
      clear hp1 hp2
      cases p1 with
      | false =>
        go_enter Try.func15, Try.ntmps15
        go_wp2_with fail
        refine (HP1.out _ (H1.out.by (by ((repeat (first | (with_reducible exact Below.refl _ _) | (with_reducible refine below_drewN ?_ _) | (with_reducible refine Below.drew ?_) | (with_reducible refine below_al ?_ _) | (with_reducible refine below_on (by assumption) ?_) | ((with_reducible refine Below.setCell ?_ ?_ _); rotate_left; focus (first | omega | (simp; done) | (simp; omega))) | (with_reducible assumption))); done)))).mono ?_
        rintro e w1 ⟨rfl, hb1⟩
        go_wp2
        go_ret
        exact ⟨ret_bool (HNO.out (by simp)).symm, (by ((repeat (first | (with_reducible exact Below.refl _ _) | (with_reducible refine below_drewN ?_ _) | (with_reducible refine Below.drew ?_) | (with_reducible refine below_al ?_ _) | (with_reducible refine below_on (by assumption) ?_) | ((with_reducible refine Below.setCell ?_ ?_ _); rotate_left; focus (first | omega | (simp; done) | (simp; omega))) | (with_reducible assumption))); done))⟩
      | true =>
        go_enter Try.func15, Try.ntmps15
        go_wp2_with fail
        refine (HP1.out _ (H1.out.by (by ((repeat (first | (with_reducible exact Below.refl _ _) | (with_reducible refine below_drewN ?_ _) | (with_reducible refine Below.drew ?_) | (with_reducible refine below_al ?_ _) | (with_reducible refine below_on (by assumption) ?_) | ((with_reducible refine Below.setCell ?_ ?_ _); rotate_left; focus (first | omega | (simp; done) | (simp; omega))) | (with_reducible assumption))); done)))).mono ?_
        rintro e w1 ⟨rfl, hb1⟩
        have k0 : Blk w1 w.heap.size #[.slice a1 xs.length c1, .slice a2 ys.length c2] 26 := (by ((repeat (first | (with_reducible assumption) | (with_reducible refine Blk.drewN ?_ _) | (with_reducible refine Blk.drew ?_) | ((with_reducible refine Blk.new _ ?_); focus (first | omega | (simp; done) | (simp; omega))) | (with_reducible refine Blk.past ?_ _) | ((with_reducible refine Blk.apart ?_ _ _ _ ?_); rotate_left; focus (first | omega | (simp; done) | (simp; omega))) | (with_reducible refine Blk.by (by assumption) ?_))); done))
        have q0 := k0.cell
        have hW : Below w.heap.size w w1 := (by ((repeat (first | (with_reducible exact Below.refl _ _) | (with_reducible refine below_drewN ?_ _) | (with_reducible refine Below.drew ?_) | (with_reducible refine below_al ?_ _) | (with_reducible refine below_on (by assumption) ?_) | ((with_reducible refine Below.setCell ?_ ?_ _); rotate_left; focus (first | omega | (simp; done) | (simp; omega))) | (with_reducible assumption))); done))
        clear hb1
        go_wp2_with fail
        refine (HP2.out _ (H2.out.by hW)).mono ?_
        rintro e w2 ⟨rfl, hb2⟩
        cases p2 with
        | false =>
          go_wp2
          go_ret
          exact ⟨ret_bool (HNO.out (by simp)).symm, (by ((repeat (first | (with_reducible exact Below.refl _ _) | (with_reducible refine below_drewN ?_ _) | (with_reducible refine Below.drew ?_) | (with_reducible refine below_al ?_ _) | (with_reducible refine below_on (by assumption) ?_) | ((with_reducible refine Below.setCell ?_ ?_ _); rotate_left; focus (first | omega | (simp; done) | (simp; omega))) | (with_reducible assumption))); done))⟩
        | true =>
          go_wp2
          go_ret
          exact ⟨ret_bool (HYES.out.2 ⟨L1.out, L2.out, by simp, by simp⟩).symm, (by ((repeat (first | (with_reducible exact Below.refl _ _) | (with_reducible refine below_drewN ?_ _) | (with_reducible refine Below.drew ?_) | (with_reducible refine below_al ?_ _) | (with_reducible refine below_on (by assumption) ?_) | ((with_reducible refine Below.setCell ?_ ?_ _); rotate_left; focus (first | omega | (simp; done) | (simp; omega))) | (with_reducible assumption))); done))⟩
    · have hr : r = false := HNO.out (by simp [l2])
      have d2 : decide ((ys.length : Int) ≤ 24) = false := decide_eq_false (by omega)
      subst hr
      go_enter Try.func15, Try.ntmps15
      go_wp2
      go_ret
      exact ⟨by simp, (by ((repeat (first | (with_reducible exact Below.refl _ _) | (with_reducible refine below_drewN ?_ _) | (with_reducible refine Below.drew ?_) | (with_reducible refine below_al ?_ _) | (with_reducible refine below_on (by assumption) ?_) | ((with_reducible refine Below.setCell ?_ ?_ _); rotate_left; focus (first | omega | (simp; done) | (simp; omega))) | (with_reducible assumption))); done))⟩
  · have hr : r = false := HNO.out (by simp [l1])
    have d1 : decide ((xs.length : Int) ≤ 24) = false := decide_eq_false (by omega)
    subst hr
    go_enter Try.func15, Try.ntmps15
    go_wp2
    go_ret
    exact ⟨by simp, (by ((repeat (first | (with_reducible exact Below.refl _ _) | (with_reducible refine below_drewN ?_ _) | (with_reducible refine Below.drew ?_) | (with_reducible refine below_al ?_ _) | (with_reducible refine below_on (by assumption) ?_) | ((with_reducible refine Below.setCell ?_ ?_ _); rotate_left; focus (first | omega | (simp; done) | (simp; omega))) | (with_reducible assumption))); done))⟩


set_option maxRecDepth 100000 in
set_option maxHeartbeats 8000000 in
theorem implInvert_any (v : Value) (x : List Int × List Int) (w : World) (h : MaV w v x) :
    Calls Try.prog 6 #[v] w fun e w' => ∃ v', e = .returned (.tuple #[v', .bool (maB x)]) ∧ OwnPr w' w.heap.size w'.heap.size v' (invM x) ∧ Below w.heap.size w w' := by
  have HM := Lib.hid (fun w h => implIsMatching_any v x w h)
  have HV := Lib.hid h
  obtain ⟨s1, s2, rfl, h1, h2⟩ := h
  obtain ⟨xs, ys⟩ := x
  dsimp only at h1 h2 ⊢
  have H1 := Lib.hid h1
  have H2 := Lib.hid h2
  obtain ⟨a1, c1, rfl⟩ := h1.len
  obtain ⟨a2, c2, rfl⟩ := h2.len
  obtain ⟨y, hy⟩ : ∃ y, invM (xs, ys) = y := ⟨_, rfl⟩
  have HYES := Lib.hid (maB_iff (x := (xs, ys)))
  rw [hy]
  unfold invM at hy
  obtain ⟨r, hr⟩ : ∃ r, maB (xs, ys) = r := ⟨_, rfl⟩
  rw [hr] at HM hy HYES ⊢
  dsimp only at HYES hy
  have HY := Lib.hid hy
  clear h1 h2 hr hy
  cases r with
  | false =>
    go_enter Try.func6, Try.ntmps6
    go_wp2_with fail
    refine (HM.out _ (HV.out.by (by ((repeat (first | (with_reducible exact Below.refl _ _) | (with_reducible refine below_drewN ?_ _) | (with_reducible refine Below.drew ?_) | (with_reducible refine below_al ?_ _) | (with_reducible refine below_on (by assumption) ?_) | ((with_reducible refine Below.setCell ?_ ?_ _); rotate_left; focus (first | omega | (simp; done) | (simp; omega))) | (with_reducible assumption))); done)))).mono ?_
    rintro e w1 ⟨rfl, hb1⟩
    have kA : Blk w1 w.heap.size #[.slice a1 xs.length c1, .slice a2 ys.length c2] 26 := (by ((repeat (first | (with_reducible assumption) | (with_reducible refine Blk.drewN ?_ _) | (with_reducible refine Blk.drew ?_) | ((with_reducible refine Blk.new _ ?_); focus (first | omega | (simp; done) | (simp; omega))) | (with_reducible refine Blk.past ?_ _) | ((with_reducible refine Blk.apart ?_ _ _ _ ?_); rotate_left; focus (first | omega | (simp; done) | (simp; omega))) | (with_reducible refine Blk.by (by assumption) ?_))); done))
    have kR : Blk w1 (w.heap.size + 1) #[.slice none 0 0, .slice none 0 0] 26 := (by ((repeat (first | (with_reducible assumption) | (with_reducible refine Blk.drewN ?_ _) | (with_reducible refine Blk.drew ?_) | ((with_reducible refine Blk.new _ ?_); focus (first | omega | (simp; done) | (simp; omega))) | (with_reducible refine Blk.past ?_ _) | ((with_reducible refine Blk.apart ?_ _ _ _ ?_); rotate_left; focus (first | omega | (simp; done) | (simp; omega))) | (with_reducible refine Blk.by (by assumption) ?_))); done))
    have hW : Below w.heap.size w w1 := (by ((repeat (first | (with_reducible exact Below.refl _ _) | (with_reducible refine below_drewN ?_ _) | (with_reducible refine Below.drew ?_) | (with_reducible refine below_al ?_ _) | (with_reducible refine below_on (by assumption) ?_) | ((with_reducible refine Below.setCell ?_ ?_ _); rotate_left; focus (first | omega | (simp; done) | (simp; omega))) | (with_reducible assumption))); done))
    have qR := kR.cell
    have fR := kR.free
    have lR := kR.lt
    clear hb1
    go_wp2
    refine bodyPost_ret (v := .tuple #[.agg #[.slice none 0 0, .slice none 0 0], .bool false]) (by simp [results, Try.results6, go_sem, *]) rfl ⟨_, rfl, ?_, (by ((repeat (first | (with_reducible exact Below.refl _ _) | (with_reducible refine below_drewN ?_ _) | (with_reducible refine Below.drew ?_) | (with_reducible refine below_al ?_ _) | (with_reducible refine below_on (by assumption) ?_) | ((with_reducible refine Below.setCell ?_ ?_ _); rotate_left; focus (first | omega | (simp; done) | (simp; omega))) | (with_reducible assumption))); done))⟩
    have hy := HY.out
    rw [if_neg (by simp)] at hy
    rw [← hy]
    exact OwnPr.nil _ _ _ (by simp; omega)
  | true =>
    obtain ⟨l1, l2, p1, p2⟩ := HYES.out.1 rfl
    have HI1 := Lib.hid (fun w h => implInv_any (.slice a1 xs.length c1) xs w h (by omega) p1)
    have HI2 := Lib.hid (fun w h => implInv_any (.slice a2 ys.length c2) ys w h (by omega) p2)
    clear l1 l2 p1 p2
    go_enter Try.func6, Try.ntmps6
    go_wp2_with fail
    refine (HM.out _ (HV.out.by (by ((repeat (first | (with_reducible exact Below.refl _ _) | (with_reducible refine below_drewN ?_ _) | (with_reducible refine Below.drew ?_) | (with_reducible refine below_al ?_ _) | (with_reducible refine below_on (by assumption) ?_) | ((with_reducible refine Below.setCell ?_ ?_ _); rotate_left; focus (first | omega | (simp; done) | (simp; omega))) | (with_reducible assumption))); done)))).mono ?_
    rintro e w1 ⟨rfl, hb1⟩
    have kA : Blk w1 w.heap.size #[.slice a1 xs.length c1, .slice a2 ys.length c2] 26 := (by ((repeat (first | (with_reducible assumption) | (with_reducible refine Blk.drewN ?_ _) | (with_reducible refine Blk.drew ?_) | ((with_reducible refine Blk.new _ ?_); focus (first | omega | (simp; done) | (simp; omega))) | (with_reducible refine Blk.past ?_ _) | ((with_reducible refine Blk.apart ?_ _ _ _ ?_); rotate_left; focus (first | omega | (simp; done) | (simp; omega))) | (with_reducible refine Blk.by (by assumption) ?_))); done))
    have kR : Blk w1 (w.heap.size + 1) #[.slice none 0 0, .slice none 0 0] 26 := (by ((repeat (first | (with_reducible assumption) | (with_reducible refine Blk.drewN ?_ _) | (with_reducible refine Blk.drew ?_) | ((with_reducible refine Blk.new _ ?_); focus (first | omega | (simp; done) | (simp; omega))) | (with_reducible refine Blk.past ?_ _) | ((with_reducible refine Blk.apart ?_ _ _ _ ?_); rotate_left; focus (first | omega | (simp; done) | (simp; omega))) | (with_reducible refine Blk.by (by assumption) ?_))); done))
    have hW : Below w.heap.size w w1 := (by ((repeat (first | (with_reducible exact Below.refl _ _) | (with_reducible refine below_drewN ?_ _) | (with_reducible refine Below.drew ?_) | (with_reducible refine below_al ?_ _) | (with_reducible refine below_on (by assumption) ?_) | ((with_reducible refine Below.setCell ?_ ?_ _); rotate_left; focus (first | omega | (simp; done) | (simp; omega))) | (with_reducible assumption))); done))
    have qA := kA.cell
    have lA := kA.lt
    have lR := kR.lt
    clear hb1
    go_wp2_with fail
    go_region_held3 (fun w' => (Blk w' w.heap.size #[.slice a1 xs.length c1, .slice a2 ys.length c2] 26 ∧ ∀ o, w'.cell? ⟨w.heap.size, o, none⟩ = (#[.slice a1 xs.length c1, .slice a2 ys.length c2] : Array Value)[o]?) ∧ Below w.heap.size w w') (((try (obtain ⟨⟨hS0, _⟩, hSB⟩ := hHeld)); refine ⟨Blk.both ?_, ?_⟩ <;> first | ((repeat (first | (with_reducible assumption) | (with_reducible refine Blk.drewN ?_ _) | (with_reducible refine Blk.drew ?_) | ((with_reducible refine Blk.new _ ?_); focus (first | omega | (simp; done) | (simp; omega))) | (with_reducible refine Blk.past ?_ _) | ((with_reducible refine Blk.apart ?_ _ _ _ ?_); rotate_left; focus (first | omega | (simp; done) | (simp; omega))) | (with_reducible refine Blk.by (by assumption) ?_))); done) | ((repeat (first | (with_reducible exact Below.refl _ _) | (with_reducible refine below_drewN ?_ _) | (with_reducible refine Below.drew ?_) | (with_reducible refine below_al ?_ _) | (with_reducible refine below_on (by assumption) ?_) | ((with_reducible refine Below.setCell ?_ ?_ _); rotate_left; focus (first | omega | (simp; done) | (simp; omega))) | (with_reducible assumption))); done)))
      (first | (go_at_call_of 14 (Value.slice a1 xs.length c1); refine (HI1.out _ ((H1.out.by hW).by (below_of_drewN w1 1))).mono ?_; rintro e wa ⟨va, rfl, hOa, hba⟩; have HOa := Lib.hid hOa; obtain ⟨aa, ca, rfl⟩ := hOa.sl.len; rw [length_invS] at HOa ⊢; clear hOa) | (go_at_call_of 14 (Value.slice a2 ys.length c2); refine (HI2.out _ (((H2.out.by hW).by (below_of_drewN w1 1)).by hba)).mono ?_; rintro e wb ⟨vb, rfl, hOb, hbb⟩; have HOb := Lib.hid hOb; obtain ⟨ab, cb, rfl⟩ := hOb.sl.len; rw [length_invS] at HOb ⊢; clear hOb; have kR2 := Blk.by hbb (Blk.by hba (kR.drewN 1)); have fR2 := kR2.free; have lR2 := kR2.lt; have qR2 := kR2.cell))
    have lB := hbb.size
    have lAa : w1.heap.size ≤ wa.heap.size := hba.size
    go_wp2
    refine bodyPost_ret (v := .tuple #[.agg #[.slice aa xs.length ca, .slice ab ys.length cb], .bool true]) (by simp [results, Try.results6, go_sem, *]) rfl ⟨_, rfl, ?_, (by ((repeat (first | (with_reducible exact Below.refl _ _) | (with_reducible refine below_drewN ?_ _) | (with_reducible refine Below.drew ?_) | (with_reducible refine below_al ?_ _) | (with_reducible refine below_on (by assumption) ?_) | ((with_reducible refine Below.setCell ?_ ?_ _); rotate_left; focus (first | omega | (simp; done) | (simp; omega))) | (with_reducible assumption))); done))⟩
    have hy := HY.out
    rw [if_pos trivial] at hy
    rw [← hy]
    refine ⟨_, _, w1.heap.size, wa.heap.size, wa.heap.size, wb.heap.size, rfl, ?_, ?_, ⟨by omega, by simp; omega⟩, ⟨by omega, by simp; try omega⟩, .inl (Nat.le_refl _)⟩
    · exact OwnR.past (Within.off _) (OwnR.past (Within.off _) (OwnR.by hbb HOa.out) (by omega)) (by omega)
    · exact OwnR.past (Within.off _) (OwnR.past (Within.off _) HOb.out (by omega)) (by omega)


set_option maxRecDepth 100000 in
set_option maxHeartbeats 8000000 in
theorem specInvert_any (v : Value) (x : List Int × List Int) (w : World) (h : MaV w v x) :
    Calls Try.prog 7 #[v] w fun e w' => ∃ v', e = .returned (.tuple #[v', .bool (maB x)]) ∧ OwnPr w' w.heap.size w'.heap.size v' (invM x) ∧ Below w.heap.size w w' := by
  have HM := Lib.hid (fun w h => specIsMatching_any v x w h)
  have HV := Lib.hid h
  obtain ⟨s1, s2, rfl, h1, h2⟩ := h
  obtain ⟨xs, ys⟩ := x
  dsimp only at h1 h2 ⊢
  have H1 := Lib.hid h1
  have H2 := Lib.hid h2
  obtain ⟨a1, c1, rfl⟩ := h1.len
  obtain ⟨a2, c2, rfl⟩ := h2.len
  obtain ⟨y, hy⟩ : ∃ y, invM (xs, ys) = y := ⟨_, rfl⟩
  have HYES := Lib.hid (maB_iff (x := (xs, ys)))
  rw [hy]
  unfold invM at hy
  obtain ⟨r, hr⟩ : ∃ r, maB (xs, ys) = r := ⟨_, rfl⟩
  rw [hr] at HM hy HYES ⊢
  dsimp only at HYES hy
  have HY := Lib.hid hy
  clear h1 h2 hr hy
  cases r with
  | false =>
    go_enter Try.func7, Try.ntmps7
    go_wp2_with fail
    refine (HM.out _ (HV.out.by (by ((repeat (first | (with_reducible exact Below.refl _ _) | (with_reducible refine below_drewN ?_ _) | (with_reducible refine Below.drew ?_) | (with_reducible refine below_al ?_ _) | (with_reducible refine below_on (by assumption) ?_) | ((with_reducible refine Below.setCell ?_ ?_ _); rotate_left; focus (first | omega | (simp; done) | (simp; omega))) | (with_reducible assumption))); done)))).mono ?_
    rintro e w1 ⟨rfl, hb1⟩
    have kA : Blk w1 w.heap.size #[.slice a1 xs.length c1, .slice a2 ys.length c2] 26 := (by ((repeat (first | (with_reducible assumption) | (with_reducible refine Blk.drewN ?_ _) | (with_reducible refine Blk.drew ?_) | ((with_reducible refine Blk.new _ ?_); focus (first | omega | (simp; done) | (simp; omega))) | (with_reducible refine Blk.past ?_ _) | ((with_reducible refine Blk.apart ?_ _ _ _ ?_); rotate_left; focus (first | omega | (simp; done) | (simp; omega))) | (with_reducible refine Blk.by (by assumption) ?_))); done))
    have kR : Blk w1 (w.heap.size + 1) #[.slice none 0 0, .slice none 0 0] 26 := (by ((repeat (first | (with_reducible assumption) | (with_reducible refine Blk.drewN ?_ _) | (with_reducible refine Blk.drew ?_) | ((with_reducible refine Blk.new _ ?_); focus (first | omega | (simp; done) | (simp; omega))) | (with_reducible refine Blk.past ?_ _) | ((with_reducible refine Blk.apart ?_ _ _ _ ?_); rotate_left; focus (first | omega | (simp; done) | (simp; omega))) | (with_reducible refine Blk.by (by assumption) ?_))); done))
    have hW : Below w.heap.size w w1 := (by ((repeat (first | (with_reducible exact Below.refl _ _) | (with_reducible refine below_drewN ?_ _) | (with_reducible refine Below.drew ?_) | (with_reducible refine below_al ?_ _) | (with_reducible refine below_on (by assumption) ?_) | ((with_reducible refine Below.setCell ?_ ?_ _); rotate_left; focus (first | omega | (simp; done) | (simp; omega))) | (with_reducible assumption))); done))
    have qR := kR.cell
    have fR := kR.free
    have lR := kR.lt
    clear hb1
    go_wp2
    refine bodyPost_ret (v := .tuple #[.agg #[.slice none 0 0, .slice none 0 0], .bool false]) (by simp [results, Try.results7, go_sem, *]) rfl ⟨_, rfl, ?_, (by ((repeat (first | (with_reducible exact Below.refl _ _) | (with_reducible refine below_drewN ?_ _) | (with_reducible refine Below.drew ?_) | (with_reducible refine below_al ?_ _) | (with_reducible refine below_on (by assumption) ?_) | ((with_reducible refine Below.setCell ?_ ?_ _); rotate_left; focus (first | omega | (simp; done) | (simp; omega))) | (with_reducible assumption))); done))⟩
    have hy := HY.out
    rw [if_neg (by simp)] at hy
    rw [← hy]
    exact OwnPr.nil _ _ _ (by simp; omega)
  | true =>
    obtain ⟨l1, l2, p1, p2⟩ := HYES.out.1 rfl
    have HI1 := Lib.hid (fun w h => specInv_any (.slice a1 xs.length c1) xs w h (by omega) p1)
    have HI2 := Lib.hid (fun w h => specInv_any (.slice a2 ys.length c2) ys w h (by omega) p2)
    clear l1 l2 p1 p2
    go_enter Try.func7, Try.ntmps7
    go_wp2_with fail
    refine (HM.out _ (HV.out.by (by ((repeat (first | (with_reducible exact Below.refl _ _) | (with_reducible refine below_drewN ?_ _) | (with_reducible refine Below.drew ?_) | (with_reducible refine below_al ?_ _) | (with_reducible refine below_on (by assumption) ?_) | ((with_reducible refine Below.setCell ?_ ?_ _); rotate_left; focus (first | omega | (simp; done) | (simp; omega))) | (with_reducible assumption))); done)))).mono ?_
    rintro e w1 ⟨rfl, hb1⟩
    have kA : Blk w1 w.heap.size #[.slice a1 xs.length c1, .slice a2 ys.length c2] 26 := (by ((repeat (first | (with_reducible assumption) | (with_reducible refine Blk.drewN ?_ _) | (with_reducible refine Blk.drew ?_) | ((with_reducible refine Blk.new _ ?_); focus (first | omega | (simp; done) | (simp; omega))) | (with_reducible refine Blk.past ?_ _) | ((with_reducible refine Blk.apart ?_ _ _ _ ?_); rotate_left; focus (first | omega | (simp; done) | (simp; omega))) | (with_reducible refine Blk.by (by assumption) ?_))); done))
    have kR : Blk w1 (w.heap.size + 1) #[.slice none 0 0, .slice none 0 0] 26 := (by ((repeat (first | (with_reducible assumption) | (with_reducible refine Blk.drewN ?_ _) | (with_reducible refine Blk.drew ?_) | ((with_reducible refine Blk.new _ ?_); focus (first | omega | (simp; done) | (simp; omega))) | (with_reducible refine Blk.past ?_ _) | ((with_reducible refine Blk.apart ?_ _ _ _ ?_); rotate_left; focus (first | omega | (simp; done) | (simp; omega))) | (with_reducible refine Blk.by (by assumption) ?_))); done))
    have hW : Below w.heap.size w w1 := (by ((repeat (first | (with_reducible exact Below.refl _ _) | (with_reducible refine below_drewN ?_ _) | (with_reducible refine Below.drew ?_) | (with_reducible refine below_al ?_ _) | (with_reducible refine below_on (by assumption) ?_) | ((with_reducible refine Below.setCell ?_ ?_ _); rotate_left; focus (first | omega | (simp; done) | (simp; omega))) | (with_reducible assumption))); done))
    have qA := kA.cell
    have lA := kA.lt
    have lR := kR.lt
    clear hb1
    go_wp2_with fail
    go_region_held3 (fun w' => (Blk w' w.heap.size #[.slice a1 xs.length c1, .slice a2 ys.length c2] 26 ∧ ∀ o, w'.cell? ⟨w.heap.size, o, none⟩ = (#[.slice a1 xs.length c1, .slice a2 ys.length c2] : Array Value)[o]?) ∧ Below w.heap.size w w') (((try (obtain ⟨⟨hS0, _⟩, hSB⟩ := hHeld)); refine ⟨Blk.both ?_, ?_⟩ <;> first | ((repeat (first | (with_reducible assumption) | (with_reducible refine Blk.drewN ?_ _) | (with_reducible refine Blk.drew ?_) | ((with_reducible refine Blk.new _ ?_); focus (first | omega | (simp; done) | (simp; omega))) | (with_reducible refine Blk.past ?_ _) | ((with_reducible refine Blk.apart ?_ _ _ _ ?_); rotate_left; focus (first | omega | (simp; done) | (simp; omega))) | (with_reducible refine Blk.by (by assumption) ?_))); done) | ((repeat (first | (with_reducible exact Below.refl _ _) | (with_reducible refine below_drewN ?_ _) | (with_reducible refine Below.drew ?_) | (with_reducible refine below_al ?_ _) | (with_reducible refine below_on (by assumption) ?_) | ((with_reducible refine Below.setCell ?_ ?_ _); rotate_left; focus (first | omega | (simp; done) | (simp; omega))) | (with_reducible assumption))); done)))
      (first | (go_at_call_of 16 (Value.slice a1 xs.length c1); refine (HI1.out _ ((H1.out.by hW).by (below_of_drewN w1 1))).mono ?_; rintro e wa ⟨va, rfl, hOa, hba⟩; have HOa := Lib.hid hOa; obtain ⟨aa, ca, rfl⟩ := hOa.sl.len; rw [length_invS] at HOa ⊢; clear hOa) | (go_at_call_of 16 (Value.slice a2 ys.length c2); refine (HI2.out _ (((H2.out.by hW).by (below_of_drewN w1 1)).by hba)).mono ?_; rintro e wb ⟨vb, rfl, hOb, hbb⟩; have HOb := Lib.hid hOb; obtain ⟨ab, cb, rfl⟩ := hOb.sl.len; rw [length_invS] at HOb ⊢; clear hOb; have kR2 := Blk.by hbb (Blk.by hba (kR.drewN 1)); have fR2 := kR2.free; have lR2 := kR2.lt; have qR2 := kR2.cell))
    have lB := hbb.size
    have lAa : w1.heap.size ≤ wa.heap.size := hba.size
    go_wp2
    refine bodyPost_ret (v := .tuple #[.agg #[.slice aa xs.length ca, .slice ab ys.length cb], .bool true]) (by simp [results, Try.results7, go_sem, *]) rfl ⟨_, rfl, ?_, (by ((repeat (first | (with_reducible exact Below.refl _ _) | (with_reducible refine below_drewN ?_ _) | (with_reducible refine Below.drew ?_) | (with_reducible refine below_al ?_ _) | (with_reducible refine below_on (by assumption) ?_) | ((with_reducible refine Below.setCell ?_ ?_ _); rotate_left; focus (first | omega | (simp; done) | (simp; omega))) | (with_reducible assumption))); done))⟩
    have hy := HY.out
    rw [if_pos trivial] at hy
    rw [← hy]
    refine ⟨_, _, w1.heap.size, wa.heap.size, wa.heap.size, wb.heap.size, rfl, ?_, ?_, ⟨by omega, by simp; omega⟩, ⟨by omega, by simp; try omega⟩, .inl (Nat.le_refl _)⟩
    · exact OwnR.past (Within.off _) (OwnR.past (Within.off _) (OwnR.by hbb HOa.out) (by omega)) (by omega)
    · exact OwnR.past (Within.off _) (OwnR.past (Within.off _) HOb.out (by omega)) (by omega)

end Go.Proofs.Ytikpalfajfmdnaa
