/- heldX of a coloring. -/
import Derived.Test.YtahlojnkfppcpaaGreatPairOwnColoring
namespace Go.Proofs.YtahlojnkfppcpaaGreat
open Go.RowKit
set_option linter.unusedVariables false
set_option linter.unusedSimpArgs false

set_option maxRecDepth 100000 in
set_option maxHeartbeats 2000000 in
theorem heldColoring_any (v : Value) (x : List Int × List Int) (k0 : Nat) (w : World) (h : CoV w v (markPr k0 x)) (hn : x.1.length ≤ 1048576 ∧ x.2.length ≤ 1048576) (hk : 0 < k0) (hk' : k0 + prsum x ≤ 1000000000) :
    Calls Tryz.prog 12 #[v, .int .i64 (k0 : Int)] w fun e w' => e = .returned (.int .i64 ((k0 + prsum x : Nat) : Int)) ∧ Below w.heap.size w w' := by
  obtain ⟨s1, s2, rfl, hD, hP⟩ := h
  obtain ⟨xs, ys⟩ := x
  unfold prsum at *
  unfold markPr at *
  dsimp only at *
  obtain ⟨hn1, hn2⟩ := hn
  have HM1 := Lib.hid (fun w h => heldInts_any s1 xs k0 w h hn1 hk (by omega))
  have HM2 := Lib.hid (fun w h => heldInts_any s2 ys (k0 + xs.length) w h hn2 (by omega) (by omega))
  have HD := Lib.hid hD
  have HP := Lib.hid hP
  obtain ⟨a1, c1, rfl⟩ := hD.len
  obtain ⟨a2, c2, rfl⟩ := hP.len
  rw [length_marks] at HD HM1
  rw [length_marks] at HP HM2
  rw [length_marks, length_marks]
  obtain ⟨T, hT⟩ : ∃ T : Nat, k0 + xs.length + ys.length = T := ⟨_, rfl⟩
  have hT' : k0 + (xs.length + ys.length) = T := by omega
  rw [hT] at HM2
  rw [hT']
  obtain ⟨m, hm⟩ : ∃ m : Nat, k0 + xs.length = m := ⟨_, rfl⟩
  rw [hm] at HM1 HM2 HP
  have hm0 : decide ((m : Int) < 0) = false := decide_eq_false (by omega)
  have hT0 : decide ((T : Int) < 0) = false := decide_eq_false (by omega)
  clear hD hP hT hT' hm
  go_enter Tryz.func12, Tryz.ntmps12
  go_wp2_with fail
  refine (HM1.out _ (HD.out.by (by ((repeat (first | (with_reducible exact Below.refl _ _) | (with_reducible refine below_drewN ?_ _) | (with_reducible refine Below.drew ?_) | (with_reducible refine below_al ?_ _) | (with_reducible refine below_on (by assumption) ?_) | ((with_reducible refine Below.setCell ?_ ?_ _); rotate_left; focus (first | omega | (simp; done) | (simp; omega))) | (with_reducible assumption))); done)))).mono ?_
  rintro e w1 ⟨rfl, hb1⟩
  have k0_ : Blk w1 w.heap.size #[.slice a1 xs.length c1, .slice a2 ys.length c2] 29 := (by ((repeat (first | (with_reducible assumption) | (with_reducible refine Blk.drewN ?_ _) | (with_reducible refine Blk.drew ?_) | ((with_reducible refine Blk.new _ ?_); focus (first | omega | (simp; done) | (simp; omega))) | (with_reducible refine Blk.past ?_ _) | ((with_reducible refine Blk.apart ?_ _ _ _ ?_); rotate_left; focus (first | omega | (simp; done) | (simp; omega))) | (with_reducible refine Blk.by (by assumption) ?_))); done))
  have c0 := k0_.cell
  have hW : Below w.heap.size w w1 := (by ((repeat (first | (with_reducible exact Below.refl _ _) | (with_reducible refine below_drewN ?_ _) | (with_reducible refine Below.drew ?_) | (with_reducible refine below_al ?_ _) | (with_reducible refine below_on (by assumption) ?_) | ((with_reducible refine Below.setCell ?_ ?_ _); rotate_left; focus (first | omega | (simp; done) | (simp; omega))) | (with_reducible assumption))); done))
  clear hb1
  go_wp2_with fail
  refine (HM2.out _ (HP.out.by hW)).mono ?_
  rintro e w2 ⟨rfl, hb2⟩
  go_wp2
  go_ret
  exact ⟨rfl, (by ((repeat (first | (with_reducible exact Below.refl _ _) | (with_reducible refine below_drewN ?_ _) | (with_reducible refine Below.drew ?_) | (with_reducible refine below_al ?_ _) | (with_reducible refine below_on (by assumption) ?_) | ((with_reducible refine Below.setCell ?_ ?_ _); rotate_left; focus (first | omega | (simp; done) | (simp; omega))) | (with_reducible assumption))); done))⟩
end Go.Proofs.YtahlojnkfppcpaaGreat

