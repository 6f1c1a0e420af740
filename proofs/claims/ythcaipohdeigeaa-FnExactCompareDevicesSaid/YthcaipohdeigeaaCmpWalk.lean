/- The walk of FnExactCompareDevices. -/
import Derived.Test.YthcaipohdeigeaaCmpDev
import Derived.Test.YthcaipohdeigeaaDevOpen
namespace Go.Proofs.Ythcaipohdeigeaa.fnExactCompareDevices
open Go.RowKit Go.Proofs.Ythcaipohdeigeaa
set_option linter.unusedVariables false

set_option maxRecDepth 100000 in
set_option maxHeartbeats 4000000 in
theorem walk (v0 v1 : Value) (w : World) (x : Int × List Int × Int × Int) (w0 : IsDevV w v0 x) (y : Int × List Int × Int × Int) (w1 : IsDevV w v1 y) :
    Calls Try.prog 3 #[v0, v1] w fun e w' => e = .returned (.bool true) ∧ Below w.heap.size w w' := by
  obtain ⟨k1, xs, d1, l1⟩ := x
  obtain ⟨k2, ys, d2, l2⟩ := y
  obtain ⟨s1, rfl, hS, _⟩ := w0
  obtain ⟨s2, rfl, hT, _⟩ := w1
  dsimp only at hS hT ⊢
  have hSZ := fun w h => szDevice_any k1 d1 l1 s1 xs 1048576 w h (by omega) (by omega)
  have hw := (((Below.refl _ w).alloc (Nat.le_refl _) (.cells #[.int .i64 k1, s1, .int .i64 d1, .int .i64 l1] 24)).alloc (by simp) (.cells #[.int .i64 k2, s2, .int .i64 d2, .int .i64 l2] 24))
  replace hS := hS.by hw
  replace hT := hT.by hw
  obtain ⟨a, c, rfl⟩ := hS.len
  obtain ⟨a', c', rfl⟩ := hT.len
  by_cases hbig : (1048576 : Int) < xs.length
  · rw [if_pos hbig] at hSZ
    have HZ := Lib.hid hSZ
    clear hSZ
    go_enter Try.func3, Try.ntmps3
    go_wp2_with fail
    refine (HZ.out _ hS).mono ?_
    rintro e w1 ⟨rfl, hb1⟩
    go_wp2
    go_ret
    exact ⟨rfl, (by ((repeat (first | (with_reducible exact Below.refl _ _) | (with_reducible refine below_drewN ?_ _) | (with_reducible refine Below.drew ?_) | (with_reducible refine below_al ?_ _) | (with_reducible refine below_on (by assumption) ?_) | ((with_reducible refine Below.setCell ?_ ?_ _); rotate_left; focus (first | omega | (simp; done) | (simp; omega))) | (with_reducible assumption))); done))⟩
  rw [if_neg hbig] at hSZ
  have hlen : xs.length ≤ 1048576 := by omega
  obtain ⟨l, hl⟩ : ∃ l : Int, (1048576 : Int) - xs.length = l := ⟨_, rfl⟩
  have hl0 : 0 ≤ l := by omega
  have hl1 : l ≤ 1048576 := by omega
  rw [hl] at hSZ
  have HZ := Lib.hid hSZ
  clear hSZ hl hbig
  have hSY := fun w h => szDevice_any k2 d2 l2 (.slice a' ys.length c') ys l w h hl0 hl1
  by_cases hbig : l < ys.length
  · rw [if_pos hbig] at hSY
    have HY := Lib.hid hSY
    clear hSY
    go_enter Try.func3, Try.ntmps3
    go_wp2_with fail
    refine (HZ.out _ hS).mono ?_
    rintro e w1 ⟨rfl, hb1⟩
    have k_A : Blk w1 w.heap.size #[.int .i64 k1, .slice a xs.length c, .int .i64 d1, .int .i64 l1] 24 := (by ((repeat (first | (with_reducible assumption) | (with_reducible refine Blk.drewN ?_ _) | (with_reducible refine Blk.drew ?_) | ((with_reducible refine Blk.new _ ?_); focus (first | omega | (simp; done) | (simp; omega))) | (with_reducible refine Blk.past ?_ _) | ((with_reducible refine Blk.apart ?_ _ _ _ ?_); rotate_left; focus (first | omega | (simp; done) | (simp; omega))) | (with_reducible refine Blk.by (by assumption) ?_))); done))
    have k_B : Blk w1 (w.heap.size + 1) #[.int .i64 k2, .slice a' ys.length c', .int .i64 d2, .int .i64 l2] 24 := (by ((repeat (first | (with_reducible assumption) | (with_reducible refine Blk.drewN ?_ _) | (with_reducible refine Blk.drew ?_) | ((with_reducible refine Blk.new _ ?_); focus (first | omega | (simp; done) | (simp; omega))) | (with_reducible refine Blk.past ?_ _) | ((with_reducible refine Blk.apart ?_ _ _ _ ?_); rotate_left; focus (first | omega | (simp; done) | (simp; omega))) | (with_reducible refine Blk.by (by assumption) ?_))); done))
    have c_A := k_A.cell
    have c_B := k_B.cell
    replace hT := hT.by hb1
    go_wp2_with fail
    refine (HY.out _ hT).mono ?_
    rintro e w2 ⟨rfl, hb2⟩
    go_wp2
    go_ret
    exact ⟨rfl, (by ((repeat (first | (with_reducible exact Below.refl _ _) | (with_reducible refine below_drewN ?_ _) | (with_reducible refine Below.drew ?_) | (with_reducible refine below_al ?_ _) | (with_reducible refine below_on (by assumption) ?_) | ((with_reducible refine Below.setCell ?_ ?_ _); rotate_left; focus (first | omega | (simp; done) | (simp; omega))) | (with_reducible assumption))); done))⟩
  rw [if_neg hbig] at hSY
  have hlen' : ys.length ≤ 1048576 := by omega
  obtain ⟨m, hm⟩ : ∃ m : Int, l - ys.length = m := ⟨_, rfl⟩
  have hm0 : 0 ≤ m := by omega
  rw [hm] at hSY
  have HY := Lib.hid hSY
  have HTO := Lib.hid (fun w h => toDevice_any k1 d1 l1 (.slice a xs.length c) xs w h hlen)
  have HTP := Lib.hid (fun w h => toDevice_any k2 d2 l2 (.slice a' ys.length c') ys w h hlen')
  have HSP := Lib.hid (fun s1 s2 w h h' => specCompareDevices_any k1 d1 l1 k2 d2 l2 s1 s2 xs ys w h h')
  have HIM := Lib.hid (fun s1 s2 w h h' => implCompareDevices_any k1 d1 l1 k2 d2 l2 s1 s2 xs ys w h h')
  generalize devcmp k1 k2 xs ys d1 d2 l1 l2 = r at *
  have hW := below_al (below_al (Below.refl _ w) (.cells #[.int .i64 k1, .slice a xs.length c, .int .i64 d1, .int .i64 l1] 24)) (.cells #[.int .i64 k2, .slice a' ys.length c', .int .i64 d2, .int .i64 l2] 24)
  have HXL := Lib.hid (show xs.length ≤ 9223372036854775807 from by omega)
  have HYL := Lib.hid (show ys.length ≤ 9223372036854775807 from by omega)
  clear hSY hm hbig hw
  go_enter Try.func3, Try.ntmps3
  go_wp2_with fail
  refine (HZ.out _ hS).mono ?_
  rintro e w1 ⟨rfl, hb1⟩
  have kA : Blk w1 w.heap.size #[.int .i64 k1, .slice a xs.length c, .int .i64 d1, .int .i64 l1] 24 := (by ((repeat (first | (with_reducible assumption) | (with_reducible refine Blk.drewN ?_ _) | (with_reducible refine Blk.drew ?_) | ((with_reducible refine Blk.new _ ?_); focus (first | omega | (simp; done) | (simp; omega))) | (with_reducible refine Blk.past ?_ _) | ((with_reducible refine Blk.apart ?_ _ _ _ ?_); rotate_left; focus (first | omega | (simp; done) | (simp; omega))) | (with_reducible refine Blk.by (by assumption) ?_))); done))
  have kB : Blk w1 (w.heap.size + 1) #[.int .i64 k2, .slice a' ys.length c', .int .i64 d2, .int .i64 l2] 24 := (by ((repeat (first | (with_reducible assumption) | (with_reducible refine Blk.drewN ?_ _) | (with_reducible refine Blk.drew ?_) | ((with_reducible refine Blk.new _ ?_); focus (first | omega | (simp; done) | (simp; omega))) | (with_reducible refine Blk.past ?_ _) | ((with_reducible refine Blk.apart ?_ _ _ _ ?_); rotate_left; focus (first | omega | (simp; done) | (simp; omega))) | (with_reducible refine Blk.by (by assumption) ?_))); done))
  replace hS := hS.by hb1
  replace hT := hT.by hb1
  replace hW := below_on hb1 hW
  clear hb1
  have c_kA := kA.cell
  have f_kA := kA.free
  have l_kA := kA.lt
  have c_kB := kB.cell
  have f_kB := kB.free
  have l_kB := kB.lt
  go_wp2_with fail
  refine (HY.out _ hT).mono ?_
  rintro e w2 ⟨rfl, hb2⟩
  clear c_kA f_kA l_kA c_kB f_kB l_kB
  replace kA := Blk.by hb2 kA
  replace kB := Blk.by hb2 kB
  replace hS := hS.by hb2
  replace hT := hT.by hb2
  replace hW := below_on hb2 hW
  have c_kA := kA.cell
  have f_kA := kA.free
  have l_kA := kA.lt
  have c_kB := kB.cell
  have f_kB := kB.free
  have l_kB := kB.lt
  go_wp2_with fail
  go_region_held3 (fun w' => (Blk w' (w.heap.size) #[.int .i64 k1, .slice a xs.length c, .int .i64 d1, .int .i64 l1] 24 ∧ ∀ o, w'.cell? ⟨w.heap.size, o, none⟩ = (#[.int .i64 k1, .slice a xs.length c, .int .i64 d1, .int .i64 l1] : Array Value)[o]?) ∧ (Blk w' (w.heap.size + 1) #[.int .i64 k2, .slice a' ys.length c', .int .i64 d2, .int .i64 l2] 24 ∧ ∀ o, w'.cell? ⟨w.heap.size + 1, o, none⟩ = (#[.int .i64 k2, .slice a' ys.length c', .int .i64 d2, .int .i64 l2] : Array Value)[o]?) ∧ Below w.heap.size w w') (((try (obtain ⟨⟨hS0, _⟩, ⟨hS1, _⟩, hSB⟩ := hHeld)); refine ⟨Blk.both ?_, Blk.both ?_, ?_⟩ <;> first | ((repeat (first | (with_reducible assumption) | (with_reducible refine Blk.drewN ?_ _) | (with_reducible refine Blk.drew ?_) | ((with_reducible refine Blk.new _ ?_); focus (first | omega | (simp; done) | (simp; omega))) | (with_reducible refine Blk.past ?_ _) | ((with_reducible refine Blk.apart ?_ _ _ _ ?_); rotate_left; focus (first | omega | (simp; done) | (simp; omega))) | (with_reducible refine Blk.by (by assumption) ?_))); done) | ((repeat (first | (with_reducible exact Below.refl _ _) | (with_reducible refine below_drewN ?_ _) | (with_reducible refine Below.drew ?_) | (with_reducible refine below_al ?_ _) | (with_reducible refine below_on (by assumption) ?_) | ((with_reducible refine Below.setCell ?_ ?_ _); rotate_left; focus (first | omega | (simp; done) | (simp; omega))) | (with_reducible assumption))); done)))
    (first | (go_at_call_of 17 (Value.int .i64 k1); refine (HTO.out _ (hS.by (below_of_drewN _ 1))).mono ?_; rintro e w3 ⟨g1, rfl, hG1, hge1, hb3⟩) | (go_at_call_of 17 (Value.int .i64 k2); refine (HTP.out _ ((hT.by (below_of_drewN _ 1)).by hb3)).mono ?_; rintro e w4 ⟨g2, rfl, hG2, hge2, hb4⟩) | (go_at_call 16; refine (HSP.out _ _ _ ((hG1.by hb4).sl HXL.out) (hG2.sl HYL.out)).mono ?_; rintro e w5 ⟨rfl, hb5⟩))
  replace hS := (((hS.by (below_of_drewN _ 1)).by hb3).by hb4).by hb5
  replace hT := (((hT.by (below_of_drewN _ 1)).by hb3).by hb4).by hb5
  clear c_kA f_kA l_kA c_kB f_kB l_kB
  replace kA := Blk.by hb5 (Blk.by hb4 (Blk.by hb3 (kA.drewN 1)))
  replace kB := Blk.by hb5 (Blk.by hb4 (Blk.by hb3 (kB.drewN 1)))
  replace hW := below_on hb5 (below_on hb4 (below_on hb3 (below_drewN hW 1)))
  clear hb3 hb4 hb5 hG1 hG2 hge1 hge2
  have c_kA := kA.cell
  have f_kA := kA.free
  have l_kA := kA.lt
  have c_kB := kB.cell
  have f_kB := kB.free
  have l_kB := kB.lt
  go_wp2_with fail
  refine (HTO.out _ hS).mono ?_
  rintro e w6 ⟨g3, rfl, hG3, hge3, hb6⟩
  clear c_kA f_kA l_kA c_kB f_kB l_kB
  replace kA := Blk.by hb6 kA
  replace kB := Blk.by hb6 kB
  replace hS := hS.by hb6
  replace hT := hT.by hb6
  replace hW := below_on hb6 hW
  clear hb6
  have c_kA := kA.cell
  have f_kA := kA.free
  have l_kA := kA.lt
  have c_kB := kB.cell
  have f_kB := kB.free
  have l_kB := kB.lt
  have hz6 : w.heap.size ≤ w6.heap.size := hW.size
  clear c_kA f_kA l_kA c_kB f_kB l_kB
  replace kA := kA.past (.cells #[.int .i64 k1, .slice (some ⟨g3, 0, none⟩) xs.length xs.length, .int .i64 d1, .int .i64 l1] 27)
  replace kB := kB.past (.cells #[.int .i64 k1, .slice (some ⟨g3, 0, none⟩) xs.length xs.length, .int .i64 d1, .int .i64 l1] 27)
  replace hS := hS.by ((Below.refl _ w6).alloc (Nat.le_refl _) (.cells #[.int .i64 k1, .slice (some ⟨g3, 0, none⟩) xs.length xs.length, .int .i64 d1, .int .i64 l1] 27))
  replace hT := hT.by ((Below.refl _ w6).alloc (Nat.le_refl _) (.cells #[.int .i64 k1, .slice (some ⟨g3, 0, none⟩) xs.length xs.length, .int .i64 d1, .int .i64 l1] 27))
  replace hG3 := hG3.alloc (.cells #[.int .i64 k1, .slice (some ⟨g3, 0, none⟩) xs.length xs.length, .int .i64 d1, .int .i64 l1] 27)
  replace hW := below_al hW (.cells #[.int .i64 k1, .slice (some ⟨g3, 0, none⟩) xs.length xs.length, .int .i64 d1, .int .i64 l1] 27)
  have kX : Blk (w6.alloc (.cells #[.int .i64 k1, .slice (some ⟨g3, 0, none⟩) xs.length xs.length, .int .i64 d1, .int .i64 l1] 27)) w6.heap.size #[.int .i64 k1, .slice (some ⟨g3, 0, none⟩) xs.length xs.length, .int .i64 d1, .int .i64 l1] 27 := Blk.new _ rfl
  have c_kA := kA.cell
  have f_kA := kA.free
  have l_kA := kA.lt
  have c_kB := kB.cell
  have f_kB := kB.free
  have l_kB := kB.lt
  have c_kX := kX.cell
  have f_kX := kX.free
  have l_kX := kX.lt
  go_wp2_with fail
  refine (HTP.out _ hT).mono ?_
  rintro e w7 ⟨g4, rfl, hG4, hge4, hb7⟩
  clear c_kA f_kA l_kA c_kB f_kB l_kB c_kX f_kX l_kX
  replace kA := Blk.by hb7 kA
  replace kB := Blk.by hb7 kB
  replace kX := Blk.by hb7 kX
  replace hS := hS.by hb7
  replace hT := hT.by hb7
  replace hG3 := hG3.by hb7
  replace hW := below_on hb7 hW
  clear hb7
  generalize w6.heap.size = px at *
  have c_kA := kA.cell
  have f_kA := kA.free
  have l_kA := kA.lt
  have c_kB := kB.cell
  have f_kB := kB.free
  have l_kB := kB.lt
  have c_kX := kX.cell
  have f_kX := kX.free
  have l_kX := kX.lt
  clear c_kA f_kA l_kA c_kB f_kB l_kB c_kX f_kX l_kX
  replace kA := kA.past (.cells #[.int .i64 k2, .slice (some ⟨g4, 0, none⟩) ys.length ys.length, .int .i64 d2, .int .i64 l2] 27)
  replace kB := kB.past (.cells #[.int .i64 k2, .slice (some ⟨g4, 0, none⟩) ys.length ys.length, .int .i64 d2, .int .i64 l2] 27)
  replace kX := kX.past (.cells #[.int .i64 k2, .slice (some ⟨g4, 0, none⟩) ys.length ys.length, .int .i64 d2, .int .i64 l2] 27)
  replace hS := hS.by ((Below.refl _ w7).alloc (Nat.le_refl _) (.cells #[.int .i64 k2, .slice (some ⟨g4, 0, none⟩) ys.length ys.length, .int .i64 d2, .int .i64 l2] 27))
  replace hT := hT.by ((Below.refl _ w7).alloc (Nat.le_refl _) (.cells #[.int .i64 k2, .slice (some ⟨g4, 0, none⟩) ys.length ys.length, .int .i64 d2, .int .i64 l2] 27))
  replace hG3 := hG3.alloc (.cells #[.int .i64 k2, .slice (some ⟨g4, 0, none⟩) ys.length ys.length, .int .i64 d2, .int .i64 l2] 27)
  replace hG4 := hG4.alloc (.cells #[.int .i64 k2, .slice (some ⟨g4, 0, none⟩) ys.length ys.length, .int .i64 d2, .int .i64 l2] 27)
  replace hW := below_al hW (.cells #[.int .i64 k2, .slice (some ⟨g4, 0, none⟩) ys.length ys.length, .int .i64 d2, .int .i64 l2] 27)
  have kY : Blk (w7.alloc (.cells #[.int .i64 k2, .slice (some ⟨g4, 0, none⟩) ys.length ys.length, .int .i64 d2, .int .i64 l2] 27)) w7.heap.size #[.int .i64 k2, .slice (some ⟨g4, 0, none⟩) ys.length ys.length, .int .i64 d2, .int .i64 l2] 27 := Blk.new _ rfl
  have c_kA := kA.cell
  have f_kA := kA.free
  have l_kA := kA.lt
  have c_kB := kB.cell
  have f_kB := kB.free
  have l_kB := kB.lt
  have c_kX := kX.cell
  have f_kX := kX.free
  have l_kX := kX.lt
  have c_kY := kY.cell
  have f_kY := kY.free
  have l_kY := kY.lt
  go_wp2_with fail
  refine (HIM.out _ _ _ (hG3.sl HXL.out) (hG4.sl HYL.out)).mono ?_
  rintro e w8 ⟨rfl, hb8⟩
  clear c_kA f_kA l_kA c_kB f_kB l_kB c_kX f_kX l_kX c_kY f_kY l_kY
  replace kA := Blk.by hb8 kA
  replace kB := Blk.by hb8 kB
  replace kX := Blk.by hb8 kX
  replace kY := Blk.by hb8 kY
  replace hS := hS.by hb8
  replace hT := hT.by hb8
  replace hG3 := hG3.by hb8
  replace hG4 := hG4.by hb8
  replace hW := below_on hb8 hW
  clear hb8
  generalize w7.heap.size = py at *
  have c_kA := kA.cell
  have f_kA := kA.free
  have l_kA := kA.lt
  have c_kB := kB.cell
  have f_kB := kB.free
  have l_kB := kB.lt
  have c_kX := kX.cell
  have f_kX := kX.free
  have l_kX := kX.lt
  have c_kY := kY.cell
  have f_kY := kY.free
  have l_kY := kY.lt
  go_wp2_with fail
  go_region_held3 (fun w' => (Blk w' (w.heap.size) #[.int .i64 k1, .slice a xs.length c, .int .i64 d1, .int .i64 l1] 24 ∧ ∀ o, w'.cell? ⟨w.heap.size, o, none⟩ = (#[.int .i64 k1, .slice a xs.length c, .int .i64 d1, .int .i64 l1] : Array Value)[o]?) ∧ (Blk w' (w.heap.size + 1) #[.int .i64 k2, .slice a' ys.length c', .int .i64 d2, .int .i64 l2] 24 ∧ ∀ o, w'.cell? ⟨w.heap.size + 1, o, none⟩ = (#[.int .i64 k2, .slice a' ys.length c', .int .i64 d2, .int .i64 l2] : Array Value)[o]?) ∧ (Blk w' (px) #[.int .i64 k1, .slice (some ⟨g3, 0, none⟩) xs.length xs.length, .int .i64 d1, .int .i64 l1] 27 ∧ ∀ o, w'.cell? ⟨px, o, none⟩ = (#[.int .i64 k1, .slice (some ⟨g3, 0, none⟩) xs.length xs.length, .int .i64 d1, .int .i64 l1] : Array Value)[o]?) ∧ (Blk w' (py) #[.int .i64 k2, .slice (some ⟨g4, 0, none⟩) ys.length ys.length, .int .i64 d2, .int .i64 l2] 27 ∧ ∀ o, w'.cell? ⟨py, o, none⟩ = (#[.int .i64 k2, .slice (some ⟨g4, 0, none⟩) ys.length ys.length, .int .i64 d2, .int .i64 l2] : Array Value)[o]?) ∧ Below w.heap.size w w') (((try (obtain ⟨⟨hS0, _⟩, ⟨hS1, _⟩, ⟨hS2, _⟩, ⟨hS3, _⟩, hSB⟩ := hHeld)); refine ⟨Blk.both ?_, Blk.both ?_, Blk.both ?_, Blk.both ?_, ?_⟩ <;> first | ((repeat (first | (with_reducible assumption) | (with_reducible refine Blk.drewN ?_ _) | (with_reducible refine Blk.drew ?_) | ((with_reducible refine Blk.new _ ?_); focus (first | omega | (simp; done) | (simp; omega))) | (with_reducible refine Blk.past ?_ _) | ((with_reducible refine Blk.apart ?_ _ _ _ ?_); rotate_left; focus (first | omega | (simp; done) | (simp; omega))) | (with_reducible refine Blk.by (by assumption) ?_))); done) | ((repeat (first | (with_reducible exact Below.refl _ _) | (with_reducible refine below_drewN ?_ _) | (with_reducible refine Below.drew ?_) | (with_reducible refine below_al ?_ _) | (with_reducible refine below_on (by assumption) ?_) | ((with_reducible refine Below.setCell ?_ ?_ _); rotate_left; focus (first | omega | (simp; done) | (simp; omega))) | (with_reducible assumption))); done)))
    (first | (go_at_call 17; refine (HTO.out _ (hS.by (below_of_drewN _ 1))).mono ?_; rintro e w9 ⟨g9, rfl, hG9, hge9, hb9⟩) | (go_at_call 19; refine (eqDevice_refl k1 d1 l1 _ _ xs _ ((((hG3.sl HXL.out)).by (below_of_drewN _ 1)).by hb9) (hG9.sl HXL.out)).mono ?_; rintro e w10 ⟨rfl, hb10⟩))
  replace hS := ((hS.by (below_of_drewN _ 1)).by hb9).by hb10
  replace hT := ((hT.by (below_of_drewN _ 1)).by hb9).by hb10
  replace hG3 := ((hG3.by (below_of_drewN _ 1)).by hb9).by hb10
  replace hG4 := ((hG4.by (below_of_drewN _ 1)).by hb9).by hb10
  clear c_kA f_kA l_kA c_kB f_kB l_kB c_kX f_kX l_kX c_kY f_kY l_kY
  replace kA := Blk.by hb10 (Blk.by hb9 (kA.drewN 1))
  replace kB := Blk.by hb10 (Blk.by hb9 (kB.drewN 1))
  replace kX := Blk.by hb10 (Blk.by hb9 (kX.drewN 1))
  replace kY := Blk.by hb10 (Blk.by hb9 (kY.drewN 1))
  replace hW := below_on hb10 (below_on hb9 (below_drewN hW 1))
  clear hb9 hb10 hG9 hge9
  have c_kA := kA.cell
  have f_kA := kA.free
  have l_kA := kA.lt
  have c_kB := kB.cell
  have f_kB := kB.free
  have l_kB := kB.lt
  have c_kX := kX.cell
  have f_kX := kX.free
  have l_kX := kX.lt
  have c_kY := kY.cell
  have f_kY := kY.free
  have l_kY := kY.lt
  go_wp2_with fail
  go_region_held3 (fun w' => (Blk w' (w.heap.size) #[.int .i64 k1, .slice a xs.length c, .int .i64 d1, .int .i64 l1] 24 ∧ ∀ o, w'.cell? ⟨w.heap.size, o, none⟩ = (#[.int .i64 k1, .slice a xs.length c, .int .i64 d1, .int .i64 l1] : Array Value)[o]?) ∧ (Blk w' (w.heap.size + 1) #[.int .i64 k2, .slice a' ys.length c', .int .i64 d2, .int .i64 l2] 24 ∧ ∀ o, w'.cell? ⟨w.heap.size + 1, o, none⟩ = (#[.int .i64 k2, .slice a' ys.length c', .int .i64 d2, .int .i64 l2] : Array Value)[o]?) ∧ (Blk w' (px) #[.int .i64 k1, .slice (some ⟨g3, 0, none⟩) xs.length xs.length, .int .i64 d1, .int .i64 l1] 27 ∧ ∀ o, w'.cell? ⟨px, o, none⟩ = (#[.int .i64 k1, .slice (some ⟨g3, 0, none⟩) xs.length xs.length, .int .i64 d1, .int .i64 l1] : Array Value)[o]?) ∧ (Blk w' (py) #[.int .i64 k2, .slice (some ⟨g4, 0, none⟩) ys.length ys.length, .int .i64 d2, .int .i64 l2] 27 ∧ ∀ o, w'.cell? ⟨py, o, none⟩ = (#[.int .i64 k2, .slice (some ⟨g4, 0, none⟩) ys.length ys.length, .int .i64 d2, .int .i64 l2] : Array Value)[o]?) ∧ Below w.heap.size w w') (((try (obtain ⟨⟨hS0, _⟩, ⟨hS1, _⟩, ⟨hS2, _⟩, ⟨hS3, _⟩, hSB⟩ := hHeld)); refine ⟨Blk.both ?_, Blk.both ?_, Blk.both ?_, Blk.both ?_, ?_⟩ <;> first | ((repeat (first | (with_reducible assumption) | (with_reducible refine Blk.drewN ?_ _) | (with_reducible refine Blk.drew ?_) | ((with_reducible refine Blk.new _ ?_); focus (first | omega | (simp; done) | (simp; omega))) | (with_reducible refine Blk.past ?_ _) | ((with_reducible refine Blk.apart ?_ _ _ _ ?_); rotate_left; focus (first | omega | (simp; done) | (simp; omega))) | (with_reducible refine Blk.by (by assumption) ?_))); done) | ((repeat (first | (with_reducible exact Below.refl _ _) | (with_reducible refine below_drewN ?_ _) | (with_reducible refine Below.drew ?_) | (with_reducible refine below_al ?_ _) | (with_reducible refine below_on (by assumption) ?_) | ((with_reducible refine Below.setCell ?_ ?_ _); rotate_left; focus (first | omega | (simp; done) | (simp; omega))) | (with_reducible assumption))); done)))
    (first | (go_at_call 17; refine (HTP.out _ (hT.by (below_of_drewN _ 1))).mono ?_; rintro e w11 ⟨g11, rfl, hG11, hge11, hb11⟩) | (go_at_call 19; refine (eqDevice_refl k2 d2 l2 _ _ ys _ ((((hG4.sl HYL.out)).by (below_of_drewN _ 1)).by hb11) (hG11.sl HYL.out)).mono ?_; rintro e w12 ⟨rfl, hb12⟩))
  replace hS := ((hS.by (below_of_drewN _ 1)).by hb11).by hb12
  replace hT := ((hT.by (below_of_drewN _ 1)).by hb11).by hb12
  replace hG3 := ((hG3.by (below_of_drewN _ 1)).by hb11).by hb12
  replace hG4 := ((hG4.by (below_of_drewN _ 1)).by hb11).by hb12
  clear c_kA f_kA l_kA c_kB f_kB l_kB c_kX f_kX l_kX c_kY f_kY l_kY
  replace kA := Blk.by hb12 (Blk.by hb11 (kA.drewN 1))
  replace kB := Blk.by hb12 (Blk.by hb11 (kB.drewN 1))
  replace kX := Blk.by hb12 (Blk.by hb11 (kX.drewN 1))
  replace kY := Blk.by hb12 (Blk.by hb11 (kY.drewN 1))
  replace hW := below_on hb12 (below_on hb11 (below_drewN hW 1))
  clear hb11 hb12 hG11 hge11
  go_wp2
  go_ret
  exact ⟨rfl, hW⟩
end Go.Proofs.Ythcaipohdeigeaa.fnExactCompareDevices
