/- A coloring as argument and result in memory. -/
import Derived.Test.YtahlojnkfppcpaaGreatIntB
import Derived.Test.YtahlojnkfppcpaaGreatPairColoring
import Derived.Test.YtahlojnkfppcpaaGreatMarks
namespace Go.Proofs.YtahlojnkfppcpaaGreat
open Go.RowKit
set_option linter.unusedVariables false
set_option linter.unusedSimpArgs false

theorem OwnPr.co {w : World} {lo hi : Nat} {v : Value} {x : List Int × List Int} (h : OwnPr w lo hi v x) : CoV w v x := by
  obtain ⟨s1, s2, l1, h1, l2, h2, e, a, b, c⟩ := h; exact ⟨s1, s2, e, a.sl, b.sl⟩
set_option maxRecDepth 100000 in
set_option maxHeartbeats 2000000 in
theorem markColoring_any (lo hi : Nat) (v : Value) (x : List Int × List Int) (k0 : Nat) (w : World) (h : OwnPr w lo hi v x) (hlw : hi ≤ w.heap.size) (hn : x.1.length ≤ 1048576 ∧ x.2.length ≤ 1048576) (hk : 0 < k0) (hk' : k0 + prsum x ≤ 1000000000) :
    Calls Tryz.prog 11 #[v, .int .i64 (k0 : Int)] w fun e w' => e = .returned (.int .i64 ((k0 + prsum x : Nat) : Int)) ∧ OwnPr w' lo hi v (markPr k0 x) ∧ Within lo hi w w' := by
  obtain ⟨s1, s2, l1, h1, l2, h2, rfl, hD, hP, q1, q2, q3⟩ := h
  obtain ⟨xs, ys⟩ := x
  unfold prsum markPr at *
  dsimp only at *
  obtain ⟨hn1, hn2⟩ := hn
  have HM1 := Lib.hid (fun w h => markInts_any l1 h1 s1 xs k0 w h hn1 hk (by omega))
  have HM2 := Lib.hid (fun w h => markInts_any l2 h2 s2 ys (k0 + xs.length) w h hn2 (by omega) (by omega))
  have HD := Lib.hid hD
  have HP := Lib.hid hP
  have HE := Lib.hid (show k0 + (xs.length + ys.length) = k0 + xs.length + ys.length by omega)
  obtain ⟨a1, c1, rfl⟩ := hD.sl.len
  obtain ⟨a2, c2, rfl⟩ := hP.sl.len
  obtain ⟨T, hT⟩ : ∃ T : Nat, k0 + xs.length + ys.length = T := ⟨_, rfl⟩
  have hT' : k0 + (xs.length + ys.length) = T := by omega
  rw [hT] at HM2
  rw [hT']
  obtain ⟨m, hm⟩ : ∃ m : Nat, k0 + xs.length = m := ⟨_, rfl⟩
  rw [hm] at HM1 HM2 ⊢
  clear hD hP hT hT' hm HE
  go_enter Tryz.func11, Tryz.ntmps11
  go_wp2_with fail
  refine (HM1.out _ (OwnR.by (by ((repeat (first | (with_reducible exact Below.refl _ _) | (with_reducible refine below_drewN ?_ _) | (with_reducible refine Below.drew ?_) | (with_reducible refine below_al ?_ _) | (with_reducible refine below_on (by assumption) ?_) | ((with_reducible refine Below.setCell ?_ ?_ _); rotate_left; focus (first | omega | (simp; done) | (simp; omega))) | (with_reducible assumption))); done)) HD.out)).mono ?_
  rintro e w1 ⟨rfl, hD1, hw1⟩
  have k0_ : Blk w1 w.heap.size #[.slice a1 xs.length c1, .slice a2 ys.length c2] 29 := hw1.blk (Blk.new _ rfl) (by omega)
  have hWt : Within lo hi w w1 := ((Within.refl lo hi w).alloc _).on (hw1.sub q1.1 q1.2)
  have hP1 := OwnR.past hw1 (OwnR.by ((Below.refl _ w).alloc (Nat.le_refl _) (.cells #[.slice a1 xs.length c1, .slice a2 ys.length c2] 29)) HP.out) (by omega)
  have c0 := k0_.cell
  have hsz := hWt.size
  have HD1 := Lib.hid hD1
  have HP1 := Lib.hid hP1
  clear hD1 hP1 hw1
  go_wp2_with fail
  refine (HM2.out _ HP1.out).mono ?_
  rintro e w2 ⟨rfl, hP2, hw2⟩
  have hD2 := OwnR.past hw2 HD1.out (by omega)
  go_wp2
  go_ret
  exact ⟨rfl, ⟨_, _, l1, h1, l2, h2, by rfl, hD2, hP2, q1, q2, q3⟩, hWt.on (hw2.sub q2.1 q2.2)⟩

end Go.Proofs.YtahlojnkfppcpaaGreat

